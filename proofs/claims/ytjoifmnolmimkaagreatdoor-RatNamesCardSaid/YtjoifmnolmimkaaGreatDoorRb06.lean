/- limbs.Nat.DivMod: long division. limbs.Nat.Gcd, Zero, One. Rational numbers as a sign and two natural numbers, and their texts. No program in sight. How long rational numbers are. No program in sight. -/
import Derived.Test.YtjoifmnolmimkaaGreatDoorRb05
import Derived.Sort.CutIn
import Derived.Test.YtjoifmnolmimkaaGreatDoorRb04
import Derived.Lib.IndexMore
namespace Go.Proofs.YtjoifmnolmimkaaGreatDoor
open Go.RowKit Go.Shelf
open Lim

attribute [local go_sem] Oper.semAt_some
attribute [local go_sem ↓] inAt_zero inAt_succ

theorem toL_small {s : Nat} (h0 : 0 < s) (h : s < B) : toL s = [s] := by
  rw [toL_pos (by omega), Nat.mod_eq_of_lt h, Nat.div_eq_of_lt h, toL_zero]
/-- A new block of one limb. -/
theorem isNat_cell {w : World} {g : Nat} {s : Nat} (h0 : 0 < s) (h : s < B) (hg : w.cell? ⟨g, 0, none⟩ = some (.int .u64 (s : Int))) (hb : g < w.heap.size) : IsNat w (.slice (some ⟨g, 0, none⟩) 1 1) s := by
  have e := toL_small h0 h
  refine ⟨some ⟨g, 0, none⟩, 1, by rw [e]; rfl, by rw [e]; exact Nat.le_refl _, by unfold maxLen; omega, fun _ => ⟨g, 0, rfl, hb, fun j u hu => ?_⟩⟩
  rw [e] at hu
  cases j with
  | zero => simp [U64] at hu; subst hu; exact hg
  | succ j => simp [U64] at hu

/-- What a row of the call's own is, written out. -/
theorem owns_blk {w : World} {base n : Nat} {v : Value} {xs : List Nat} (h : w.ownsRow base 52 1 v n (U64 xs)) (hn : 0 < n) :
    ∃ (g cap : Nat) (rest : List Value), v = .slice (some ⟨g, 0, none⟩) n cap ∧ base ≤ g ∧ Blk w g 52 (U64 xs ++ rest).toArray ∧ n ≤ cap ∧ cap ≤ maxLen ∧ n = xs.length := by
  have hl : n = xs.length := by have := h.1; rw [U64_length] at this; omega
  rcases h.2 with ⟨_, h0⟩ | ⟨g, cap, cur, e, hb, hh, h1, h2, _, h4⟩
  · omega
  · refine ⟨g, cap, cur.toList.drop n, e, hb, ?_, h1, h2, hl⟩
    have e2 : U64 xs ++ cur.toList.drop n = cur.toList := by
      rw [← h4, Nat.mul_one, List.take_append_drop]
    rw [e2]
    exact hh

theorem isNat_put {W : World} {v : Value} {n D : Nat} {o o' : Obj} (h : IsNat W v n) (hk : W.heap[D]? = some o) (ho : o.isCells = false) : IsNat (W.putObj D o') v n := by
  obtain ⟨A, c, e, h1, h2, h3⟩ := h
  refine ⟨A, c, e, h1, h2, fun h0 => ?_⟩
  obtain ⟨b, q, rfl, hb, hc⟩ := h3 h0
  have hg := grownBy_putObj' W D o'
  exact ⟨b, q, rfl, Nat.lt_of_lt_of_le hb hg.size, fun j x hx => cell_kept (hc j x hx) hg (fun r e => by cases e; exact ⟨_, hk, ho⟩)⟩

set_option maxRecDepth 100000 in
set_option maxHeartbeats 4000000 in
theorem divmod_long (x y : Nat) (vx vy : Value) (w : World) (hx : IsNat w vx x) (hy : IsNat w vy y) (hlx : (toL x).length ≤ 30000) (hge : y ≤ x) (hl2 : 2 ≤ (toL y).length) :
    Calls Tryz.prog 135 #[vx, vy] w fun e w' => ∃ vq vr, e = .returned (.tuple #[vq, vr]) ∧ IsNat w' vq (x / y) ∧ IsNat w' vr (x % y) ∧ Below w.heap.size w w' := by
  have HX := Lib.hid hx
  have HY := Lib.hid hy
  have hy0 : 0 < y := by
    rcases Nat.eq_zero_or_pos y with h0 | h0
    · subst h0; rw [toL_zero] at hl2; simp at hl2
    · exact h0
  have hly : (toL y).length ≤ (toL x).length := toL_len_mono hge
  obtain ⟨s, hs⟩ : ∃ s, s = B / ((toL y)[(toL y).length - 1]?.getD 0 + 1) := ⟨_, rfl⟩
  obtain ⟨s0, s1, s2⟩ := scaled_len hy0 hs
  have HS2 := Lib.hid s2
  obtain ⟨A, c, rfl, hc, hcm, _⟩ := hx
  obtain ⟨A', c', rfl, hc', hcm', hrow⟩ := hy
  obtain ⟨b, o, rfl, hb, hcell⟩ := hrow (by rw [U64_length]; omega)
  have hc0 := hcell ((toL y).length - 1) _ (U64_get (by omega))
  have htop := (sm_toL y).get ((toL y).length - 1)
  have hd : decide (sgn x y < 0) = false := by
    rcases Nat.lt_or_ge y x with h | h
    · rw [sgn_gt h]; rfl
    · rw [Nat.le_antisymm h hge, sgn_self]; rfl
  have hne1 : (((toL y).length : Int) == 1) = false := by rw [beq_eq_false_iff_ne]; omega
  have HGE := Lib.hid hge
  obtain ⟨i0, hi, hz0, hz1, hz2⟩ := info_parts Tryz.infoU
  clear hcell hrow hge s2
  generalize (toL y)[(toL y).length - 1]?.getD 0 = top at *
  have e1 : (1000000000 : Int) / ((top : Int) + 1) = (s : Int) := by rw [hs, B_val, Int.natCast_ediv]; rfl
  rw [B_val] at s1 htop
  clear hs
  refine (callsIn_wide (n := 3)).1 ?_
  have h1 : 1 ≤ 3 := by omega
  refine callsIn_of_wp_marks Tryz.func135 rfl trivial ?_ rfl
  simp only [Tryz.ntmps135, List.size_toArray, List.length_cons, List.length_nil, Nat.reduceAdd, Nat.reduceSub, Array.replicate_succ, Array.replicate_zero, List.push_toArray, List.append_toArray, List.nil_append, List.cons_append]
  have TK1 : True := trivial
  have TK2 : True := trivial
  have TK3 : True := trivial
  have TK4 : True := trivial
  gi_upto_region 7 with (clear TK1; refine ⟨trivial, ?_⟩; gi_at_call 125; refine (callsIn_wide.2 (cmp_any x y _ _ _ HX.out HY.out (by omega))).mono ?_; rintro e w1 ⟨rfl, hb1⟩; have HB1 := Lib.hid hb1; have hc1 := (hb1.cell (p := ⟨b, o + ((toL y).length - 1), none⟩) hb).trans hc0; have hbs : b < w1.heap.size := Nat.lt_of_lt_of_le hb hb1.size; clear hb1)
  have hbk : Blk (w1.alloc (.cells #[.int .u64 (s : Int)] 52)) w1.heap.size 52 (U64 [s]).toArray := Blk.new _ _ _
  have hB2 : Below w.heap.size w (w1.alloc (.cells #[.int .u64 (s : Int)] 52)) := HB1.out.alloc (HB1.out.size) _
  have hgs : w1.heap.size < (w1.alloc (.cells #[.int .u64 (s : Int)] 52)).heap.size := by simp
  have hwg : w.heap.size ≤ w1.heap.size := HB1.out.size
  generalize w1.alloc (.cells #[.int .u64 (s : Int)] 52) = W2 at *
  generalize w1.heap.size = gs at *
  have HSC := Lib.hid (isNat_cell (w := W2) (g := gs) s0 (by rw [B_val]; exact s1) (hbk.getU (i := 0) (Nat.zero_lt_one)) hgs)
  have HGB := Lib.hid hbk
  have HB2 := Lib.hid hB2
  clear hc1 hbs HB1 hc0 hbk hB2 e1 hd
  have hm1 : (toL s).length ≤ 40000 := by rw [toL_small s0 (by rw [B_val]; exact s1)]; exact Nat.le_of_ble_eq_true rfl
  have hlen1 : (toL (x * s)).length ≤ (toL x).length + 1 := toL_len_le (scaled_a_lt (by rw [B_val]; exact s1))
  have hlen0 : (toL x).length ≤ (toL (x * s)).length := toL_len_mono (Nat.le_mul_of_pos_right _ s0)
  gi_upto_region 8 with (first
    | (clear TK2; refine ⟨trivial, ?_⟩; gi_at_call 120; refine (callsIn_wide.2 (mul_own x s _ _ _ (HX.out.below HB2.out) HSC.out (by omega) hm1)).mono ?_; rintro e w3 ⟨v3, rfl, ho, hb⟩; obtain ⟨A3, c3, rfl⟩ := slice_of_owns ho; have HO3 := Lib.hid ho; have HB3 := Lib.hid hb; have hs3 := hb.size; clear ho hb)
    | (clear TK3; gi_at_builtin; go_loud (refine wpListIn_append_own _ rfl _ _ 48 rfl W2.heap.size 52 i0 (.int .u64 0) 1 8 Tryz.underlying48 hi hz0 hz1 hz2 rfl (by decide) _ _ _ rfl (HO3.out.alloc _) ⟨w3.heap.size, 0, none⟩ 1 1 [.int .u64 0] rfl rfl (cell_one_new _ _ _) (by simp [Value.oneCell']) (by unfold maxLen; omega) (by omega) (by simp; omega) ?_; intro v4 w4 hown4 hgrow4 _); have hb4 : Below W2.heap.size W2 w4 := (HB3.out.alloc hs3 _).grown hgrow4 (by simp; omega) (fun k e => (HO3.out.lt k e).1); have hs4 := hb4.size; have HB4 := Lib.hid hb4; obtain ⟨gu, cu, ru, rfl, hgu, hbu, hcu, hcum, hlu⟩ := owns_blk (xs := toL (x * s) ++ [0]) (by rw [← U64_snoc]; exact hown4) (by omega); have HBU := Lib.hid hbu; have HLU := Lib.hid (And.intro hgu (And.intro hcu (And.intro hcum hlu))); have hgu4 := hbu.lt; clear hown4 hgrow4 hb4 hbu hgu hcu hcum hlu)
    | (clear TK4; refine ⟨trivial, ?_⟩; gi_at_call 120; go_loud (refine (callsIn_wide.2 (mul_own y s _ _ _ ((HY.out.below HB2.out).below HB4.out) (HSC.out.below HB4.out) (by omega) hm1)).mono ?_; rintro e w5 ⟨v5, rfl, ho, hb⟩; obtain ⟨gv, cv, rv, rfl, hgv, hbv, hcv, hcvm, hlv⟩ := owns_blk ho (by rw [HS2.out]; omega); have HBV := Lib.hid hbv; have HLV := Lib.hid (And.intro hgv (And.intro hcv hcvm)); have HB5 := Lib.hid hb; have hs5 := hb.size; clear ho hb hbv hgv hcv hcvm hlv)))
  have c0 : Boxed ((w5.alloc (.cells #[.slice (some ⟨gu, 0, none⟩) ((toL (x * s)).length + 1) cu] 48)).alloc (.cells #[.slice (some ⟨gv, 0, none⟩) (toL (y * s)).length cv] 48)) w5.heap.size 48 _ := (Boxed.new w5 _ _).alloc _
  have c1 : Boxed ((w5.alloc (.cells #[.slice (some ⟨gu, 0, none⟩) ((toL (x * s)).length + 1) cu] 48)).alloc (.cells #[.slice (some ⟨gv, 0, none⟩) (toL (y * s)).length cv] 48)) (w5.heap.size + 1) 48 (.slice (some ⟨gv, 0, none⟩) (toL (y * s)).length cv) := by
    have := Boxed.new (w5.alloc (.cells #[.slice (some ⟨gu, 0, none⟩) ((toL (x * s)).length + 1) cu] 48)) 48 (.slice (some ⟨gv, 0, none⟩) (toL (y * s)).length cv)
    rwa [World.size_alloc] at this
  have k0 := ((HBU.out.below HB5.out hgu4).alloc (.cells #[.slice (some ⟨gu, 0, none⟩) ((toL (x * s)).length + 1) cu] 48)).alloc (.cells #[.slice (some ⟨gv, 0, none⟩) (toL (y * s)).length cv] 48)
  have k1 := (HBV.out.alloc (.cells #[.slice (some ⟨gu, 0, none⟩) ((toL (x * s)).length + 1) cu] 48)).alloc (.cells #[.slice (some ⟨gv, 0, none⟩) (toL (y * s)).length cv] 48)
  have k2 := (((HGB.out.below HB4.out hgs).below HB5.out (Nat.lt_of_lt_of_le hgs hs4)).alloc (.cells #[.slice (some ⟨gu, 0, none⟩) ((toL (x * s)).length + 1) cu] 48)).alloc (.cells #[.slice (some ⟨gv, 0, none⟩) (toL (y * s)).length cv] 48)
  have k3 : Below w.heap.size w ((w5.alloc (.cells #[.slice (some ⟨gu, 0, none⟩) ((toL (x * s)).length + 1) cu] 48)).alloc (.cells #[.slice (some ⟨gv, 0, none⟩) (toL (y * s)).length cv] 48)) := by
    have hb : Below w.heap.size w w5 := HB2.out.trans ((HB4.out.trans (HB5.out.mono hs4)).mono HB2.out.size)
    exact (hb.alloc hb.size _).alloc (by simp; have := hb.size; omega) _
  have hgv4 : w4.heap.size ≤ gv := HLV.out.1
  have hgv5 : gv < w5.heap.size := HBV.out.lt
  have hgus : W2.heap.size ≤ gu := HLU.out.1
  have hsz6 : ((w5.alloc (.cells #[.slice (some ⟨gu, 0, none⟩) ((toL (x * s)).length + 1) cu] 48)).alloc (.cells #[.slice (some ⟨gv, 0, none⟩) (toL (y * s)).length cv] 48)).heap.size = w5.heap.size + 1 + 1 := by simp
  generalize (w5.alloc (.cells #[.slice (some ⟨gu, 0, none⟩) ((toL (x * s)).length + 1) cu] 48)).alloc (.cells #[.slice (some ⟨gv, 0, none⟩) (toL (y * s)).length cv] 48) = W6 at *
  have hgv6 : gu < gv := by omega
  have hgs6 : gs < gu := by omega
  have hcu := HLU.out.2.1
  have hcum := HLU.out.2.2.1
  have hcv := HLV.out.2.1
  have hwb : w.heap.size ≤ w5.heap.size := by have := HB2.out.size; omega
  have hwgu : w.heap.size ≤ gu := by have := HB2.out.size; omega
  generalize w5.heap.size = g5 at *
  have HS6 := Lib.hid hsz6
  clear hsz6 hgus hgv4 HBU HBV HGB HB5 HB4 HB3 HO3 HLV HLU hs3 hs4 hs5 hgu4 HSC hgs
  have hx0 := HB2.out.size
  clear HB2 hx0
  generalize hnv : (toL (y * s)).length = nv at *
  have hnv2 : nv = (toL y).length := HS2.out
  clear HS2
  subst hnv2
  have hyx : (toL y).length ≤ (toL (x * s)).length := by omega
  have hnle : (toL x).length < (toL (x * s)).length + 1 := by omega
  have HLN := Lib.hid (show (toL (x * s) ++ [0]).length = (toL (x * s)).length + 1 by simp)
  have HS3 := Lib.hid hnv
  clear hnv
  generalize hlu : (toL (x * s)).length + 1 = lu at *
  generalize hnn : (toL y).length = n at *
  have hln : n < lu := by omega
  have hlu2 : lu ≤ 40000 := by omega
  have HLU := Lib.hid hlu
  have HNN := Lib.hid hnn
  clear hlu hnn hlen0 hyx hm1 hlen1
  have hmk := fun W => run_makeN (P := Tryz.prog) Tryz.underlying48 hi hz0 hz1 hz2 (n := lu - n) (by omega) (C := (lu : Int) - (n : Int)) (by omega) W
  have hnle2 : ¬ (lu : Int) ≤ ((toL x).length : Int) := by omega
  have d0 := c0.cell
  have d1 := c1.cell
  have TK5 : True := trivial
  have hg5a : g5 < W6.heap.size := c0.lt
  have hg5b : g5 + 1 < W6.heap.size := c1.lt
  gi_wp2
  gi_loopw [52] (fun _ wr => wr = W6) (fun _ _ => 0)
  case atStart => rfl
  case round =>
    obtain rfl := hrel
    gi_wp2_with (clear TK5; refine ⟨trivial, ?_⟩; gi_at_call 148; refine (backward_in Fence.wide 2 trivial rfl _ _ _ _).mono ?_; rintro e w' ⟨rfl, rfl⟩)
    have q0 := ((((c0).alloc (.cells #[.int .i64 (n : Int)] 3)).alloc (.cells (madeCells #[.int .u64 0] (lu - n)) 52)).alloc (.cells #[.slice (some ⟨wr.heap.size + 1, 0, none⟩) (lu - n) (lu - n)] 48)).alloc (.cells #[.slice (some ⟨wr.heap.size + 1, 0, none⟩) (lu - n) (lu - n)] 48)
    have q1 := ((((c1).alloc (.cells #[.int .i64 (n : Int)] 3)).alloc (.cells (madeCells #[.int .u64 0] (lu - n)) 52)).alloc (.cells #[.slice (some ⟨wr.heap.size + 1, 0, none⟩) (lu - n) (lu - n)] 48)).alloc (.cells #[.slice (some ⟨wr.heap.size + 1, 0, none⟩) (lu - n) (lu - n)] 48)
    have q2 := ((((k0).alloc (.cells #[.int .i64 (n : Int)] 3)).alloc (.cells (madeCells #[.int .u64 0] (lu - n)) 52)).alloc (.cells #[.slice (some ⟨wr.heap.size + 1, 0, none⟩) (lu - n) (lu - n)] 48)).alloc (.cells #[.slice (some ⟨wr.heap.size + 1, 0, none⟩) (lu - n) (lu - n)] 48)
    have q3 := ((((k1).alloc (.cells #[.int .i64 (n : Int)] 3)).alloc (.cells (madeCells #[.int .u64 0] (lu - n)) 52)).alloc (.cells #[.slice (some ⟨wr.heap.size + 1, 0, none⟩) (lu - n) (lu - n)] 48)).alloc (.cells #[.slice (some ⟨wr.heap.size + 1, 0, none⟩) (lu - n) (lu - n)] 48)
    have q4 := ((((k2).alloc (.cells #[.int .i64 (n : Int)] 3)).alloc (.cells (madeCells #[.int .u64 0] (lu - n)) 52)).alloc (.cells #[.slice (some ⟨wr.heap.size + 1, 0, none⟩) (lu - n) (lu - n)] 48)).alloc (.cells #[.slice (some ⟨wr.heap.size + 1, 0, none⟩) (lu - n) (lu - n)] 48)
    have q5 : Boxed ((((wr.alloc (.cells #[.int .i64 (n : Int)] 3)).alloc (.cells (madeCells #[.int .u64 0] (lu - n)) 52)).alloc (.cells #[.slice (some ⟨wr.heap.size + 1, 0, none⟩) (lu - n) (lu - n)] 48)).alloc (.cells #[.slice (some ⟨wr.heap.size + 1, 0, none⟩) (lu - n) (lu - n)] 48)) wr.heap.size 3 (.int .i64 (n : Int)) := (((Boxed.new wr _ _).alloc (.cells (madeCells #[.int .u64 0] (lu - n)) 52)).alloc (.cells #[.slice (some ⟨wr.heap.size + 1, 0, none⟩) (lu - n) (lu - n)] 48)).alloc (.cells #[.slice (some ⟨wr.heap.size + 1, 0, none⟩) (lu - n) (lu - n)] 48)
    have q6 : Blk ((((wr.alloc (.cells #[.int .i64 (n : Int)] 3)).alloc (.cells (madeCells #[.int .u64 0] (lu - n)) 52)).alloc (.cells #[.slice (some ⟨wr.heap.size + 1, 0, none⟩) (lu - n) (lu - n)] 48)).alloc (.cells #[.slice (some ⟨wr.heap.size + 1, 0, none⟩) (lu - n) (lu - n)] 48)) (wr.heap.size + 1) 52 (U64 (List.replicate (lu - n) 0)).toArray := by
      rw [← U64_zeros]
      have := ((Blk.new (wr.alloc (.cells #[.int .i64 (n : Int)] 3)) 52 (madeCells #[.int .u64 0] (lu - n))).alloc (.cells #[.slice (some ⟨wr.heap.size + 1, 0, none⟩) (lu - n) (lu - n)] 48)).alloc (.cells #[.slice (some ⟨wr.heap.size + 1, 0, none⟩) (lu - n) (lu - n)] 48)
      rwa [World.size_alloc] at this
    have q7 : Boxed ((((wr.alloc (.cells #[.int .i64 (n : Int)] 3)).alloc (.cells (madeCells #[.int .u64 0] (lu - n)) 52)).alloc (.cells #[.slice (some ⟨wr.heap.size + 1, 0, none⟩) (lu - n) (lu - n)] 48)).alloc (.cells #[.slice (some ⟨wr.heap.size + 1, 0, none⟩) (lu - n) (lu - n)] 48)) (wr.heap.size + 1 + 1) 48 (.slice (some ⟨wr.heap.size + 1, 0, none⟩) (lu - n) (lu - n)) := by
      have := (Boxed.new ((wr.alloc (.cells #[.int .i64 (n : Int)] 3)).alloc (.cells (madeCells #[.int .u64 0] (lu - n)) 52)) 48 (.slice (some ⟨wr.heap.size + 1, 0, none⟩) (lu - n) (lu - n))).alloc (.cells #[.slice (some ⟨wr.heap.size + 1, 0, none⟩) (lu - n) (lu - n)] 48)
      simpa only [World.size_alloc] using this
    have q8 : Boxed ((((wr.alloc (.cells #[.int .i64 (n : Int)] 3)).alloc (.cells (madeCells #[.int .u64 0] (lu - n)) 52)).alloc (.cells #[.slice (some ⟨wr.heap.size + 1, 0, none⟩) (lu - n) (lu - n)] 48)).alloc (.cells #[.slice (some ⟨wr.heap.size + 1, 0, none⟩) (lu - n) (lu - n)] 48)) (wr.heap.size + 1 + 1 + 1) 48 (.slice (some ⟨wr.heap.size + 1, 0, none⟩) (lu - n) (lu - n)) := by
      have := Boxed.new (((wr.alloc (.cells #[.int .i64 (n : Int)] 3)).alloc (.cells (madeCells #[.int .u64 0] (lu - n)) 52)).alloc (.cells #[.slice (some ⟨wr.heap.size + 1, 0, none⟩) (lu - n) (lu - n)] 48)) 48 (.slice (some ⟨wr.heap.size + 1, 0, none⟩) (lu - n) (lu - n))
      simpa only [World.size_alloc] using this
    have hwr : w.heap.size ≤ wr.heap.size := k3.size
    have q9 : Below w.heap.size w ((((wr.alloc (.cells #[.int .i64 (n : Int)] 3)).alloc (.cells (madeCells #[.int .u64 0] (lu - n)) 52)).alloc (.cells #[.slice (some ⟨wr.heap.size + 1, 0, none⟩) (lu - n) (lu - n)] 48)).alloc (.cells #[.slice (some ⟨wr.heap.size + 1, 0, none⟩) (lu - n) (lu - n)] 48)) := (((k3.alloc hwr _).alloc (by simp; omega) _).alloc (by simp; omega) _).alloc (by simp; omega) _
    have hsz7 : ((((wr.alloc (.cells #[.int .i64 (n : Int)] 3)).alloc (.cells (madeCells #[.int .u64 0] (lu - n)) 52)).alloc (.cells #[.slice (some ⟨wr.heap.size + 1, 0, none⟩) (lu - n) (lu - n)] 48)).alloc (.cells #[.slice (some ⟨wr.heap.size + 1, 0, none⟩) (lu - n) (lu - n)] 48)).heap.size = wr.heap.size + 1 + 1 + 1 + 1 := by simp
    clear hmk c0 c1 k0 k1 k2 k3 d0 d1
    generalize ((((wr.alloc (.cells #[.int .i64 (n : Int)] 3)).alloc (.cells (madeCells #[.int .u64 0] (lu - n)) 52)).alloc (.cells #[.slice (some ⟨wr.heap.size + 1, 0, none⟩) (lu - n) (lu - n)] 48)).alloc (.cells #[.slice (some ⟨wr.heap.size + 1, 0, none⟩) (lu - n) (lu - n)] 48)) = W7 at *
    generalize wr.heap.size = h at *
    have hlenO : (toL (x * s) ++ [0]).length = lu := by rw [HLN.out]
    have hlenV : (toL (y * s)).length = n := HS3.out
    have hVn : 2 ≤ n := hl2
    have hys0 : 0 < y * s := Nat.mul_pos hy0 s0
    have htopV := (top_bounds hys0).1
    rw [hlenV] at htopV
    have hstart : LongInv (toL (x * s) ++ [0]) (toL (y * s)) n (lu - n) (toL (x * s) ++ [0]) (List.replicate (lu - n) 0) := by
      refine LongInv.start ((sm_toL _).snoc B_pos) (by rw [hlenO]; omega) ?_
      have hlx1 : (toL (x * s)).length = lu - 1 := by have := HLU.out; omega
      rw [List.drop_append_of_le_length (by omega), val_snoc, Nat.mul_zero, Nat.add_zero]
      have h1 := val_lt ((sm_toL (x * s)).drop (lu - n))
      rw [List.length_drop, hlx1, show lu - 1 - (lu - n) = n - 1 by omega] at h1
      have h2 := toL_ge (n := y * s) (by omega)
      rw [hlenV] at h2
      rw [val_toL]
      omega
    refine wpIn_range_ord rfl h1 (gf := 165) (lb := #[.pointer (some ⟨h + 1 + 1 + 1, 0, none⟩)]) rfl trivial eg_back
      (back_seq Fence.wide 2 trivial rfl (by omega) (fun _ _ => True) (h + 1 + 1 + 1) (some ⟨h + 1, 0, none⟩) (lu - n) (lu - n) (by omega)) (fun _ => rfl)
      (fun pre W => ∃ (U Q : List Nat), LongInv (toL (x * s) ++ [0]) (toL (y * s)) n ((lu - n) - pre.length) U Q ∧ pre.length ≤ lu - n ∧
        Boxed W g5 48 (.slice (some ⟨gu, 0, none⟩) lu cu) ∧ Boxed W (g5 + 1) 48 (.slice (some ⟨gv, 0, none⟩) n cv) ∧ Boxed W h 3 (.int .i64 (n : Int)) ∧
        Boxed W (h + 1 + 1) 48 (.slice (some ⟨h + 1, 0, none⟩) (lu - n) (lu - n)) ∧ Boxed W (h + 1 + 1 + 1) 48 (.slice (some ⟨h + 1, 0, none⟩) (lu - n) (lu - n)) ∧
        Blk W gu 52 (U64 U ++ ru).toArray ∧ Blk W gv 52 (U64 (toL (y * s)) ++ rv).toArray ∧ Blk W gs 52 (U64 [s]).toArray ∧ Blk W (h + 1) 52 (U64 Q).toArray ∧ Below w.heap.size w W)
      (fun _ _ _ => False)
      ?hG ?hI (fun c s W W' row hs _ _ => hs) ⟨_, _, by rw [List.length_nil, Nat.sub_zero]; exact hstart, by simp, q0, q1, q5, q7, q8, q2, q3, q4, q6, q9⟩ ?round ?done ?stop
    case hG =>
      rintro pre W ⟨U, Q, hL, _, _, _, _, _, p8, _, _, _, p6, _⟩
      refine ⟨p8.cell, fun h0 => ?_⟩
      exact ⟨h + 1, 0, rfl, fun i hi => ⟨((Q[i]?.getD 0 : Nat) : Int), by rw [Nat.zero_add]; exact p6.getU (i := i) (by have := hL.lq; rw [hlenO] at this; omega), trivial⟩⟩
    case hI =>
      rintro s W W' row ⟨U, Q, g1, g2, g3, g4, g5', g6, g7, g8, g9, g10, g11, g12⟩ hg hr
      exact ⟨U, Q, g1, g2, bx_own g3 hg hr, bx_own g4 hg hr, bx_own g5' hg hr, bx_own g6 hg hr, bx_own g7 hg hr, g8.own_ hg hr, g9.own_ hg hr, g10.own_ hg hr, g11.own_ hg hr, below_own_ g12 (Nat.le_refl _) (by omega) hg hr⟩
    case round =>
      rintro l pre ⟨i, z⟩ W K hi hnx hK
      have HNX := Lib.hid hnx
      clear hnx q0 q1 q2 q3 q4 q5 q6 q7 q8 q9 hstart
      gi_wp2
      refine hK _ _ (KeepsOthers.refl _) hi ?_
      clear hK hi
      rintro Wb _ ⟨U, Q, hL, hpl, q0, q1, q5, q7, q8, q2, q3, q4, q6, q9⟩
      obtain ⟨m, hm, hcame, hieq, hz⟩ := HNX.out
      dsimp only at hieq hz
      have hml := hcame.length
      have hil : i < lu - n := by omega
      have hLi : LongInv (toL (x * s) ++ [0]) (toL (y * s)) n (i + 1) U Q := by
        have e : lu - n - pre.length = i + 1 := by omega
        rw [e] at hL; exact hL
      have hlU : U.length = lu := by rw [hLi.lu, hlenO]
      have hlQ : Q.length = lu - n := by have := hLi.lq; rw [hlenO] at this; omega
      obtain ⟨hD2, hwin, _⟩ := hLi.window hVn (sm_toL _) hlenV htopV (by rw [hlQ]; exact hil)
      have hsplit : U64 U ++ ru = U64 (U.take i) ++ (U64 ((U.drop i).take (n + 1)) ++ (U64 (U.drop (i + (n + 1))) ++ ru)) := by
        rw [← List.append_assoc, ← List.append_assoc]
        congr 1
        simp only [U64, ← List.map_append]
        congr 1
        rw [show U.drop (i + (n + 1)) = (U.drop i).drop (n + 1) by rw [List.drop_drop], List.append_assoc, List.take_append_drop, List.take_append_drop]
      have HEST := Lib.hid (fun (W : World) (c2 : Nat) (hW : Blk W gu 52 (U64 U ++ ru).toArray) (hV : Blk W gv 52 (U64 (toL (y * s)) ++ rv).toArray) =>
        est_any (U64 (U.take i)) (U64 (U.drop (i + (n + 1))) ++ ru) ((U.drop i).take (n + 1)) (toL (y * s)) n gu i c2 cv (some ⟨gv, 0, none⟩) W hD2 (by rw [U64_length, List.length_take]; omega) (by omega) (by rw [← hsplit]; exact hW)
          (by have hr := (hV.row).take (toL (y * s)).length; rw [List.take_left' (by rw [U64_length])] at hr; exact hr) (fun a e => by cases e; dsimp only; omega))
      have HLI := Lib.hid hLi
      have HLQ := Lib.hid hlQ
      have HPL := Lib.hid (show pre.length = lu - n - 1 - i by omega)
      have d0 := q0.cell
      have d1 := q1.cell
      have d5 := q5.cell
      have d7 := q7.cell
      have hgun : g5 ≠ gu := by omega
      have hi0 : (0 : Int) ≤ (i : Int) := by omega
      have hi1 : (i : Int) < ((lu - n : Nat) : Int) := by omega
      have hi2 : (i : Int) + (n : Int) + 1 ≤ (lu : Int) := by omega
      have hmx : Tryz.prog.follows .mixedOrders = true := by kernel_rfl
      have x0' : ∀ X : SameAt Wb (fun k => k ≠ gu ∧ k ≠ h + 1), X.W.cell? ⟨g5, 0, none⟩ = _ := fun X => X.cell (by constructor <;> omega) d0
      have x1' : ∀ X : SameAt Wb (fun k => k ≠ gu ∧ k ≠ h + 1), X.W.cell? ⟨g5 + 1, 0, none⟩ = _ := fun X => X.cell (by constructor <;> omega) d1
      have x5' : ∀ X : SameAt Wb (fun k => k ≠ gu ∧ k ≠ h + 1), X.W.cell? ⟨h, 0, none⟩ = _ := fun X => X.cell (by constructor <;> omega) d5
      have x7' : ∀ X : SameAt Wb (fun k => k ≠ gu ∧ k ≠ h + 1), X.W.cell? ⟨h + 1 + 1, 0, none⟩ = _ := fun X => X.cell (by constructor <;> omega) d7
      clear hieq hcame hml hL hLi hlU hlQ hD2 hwin hsplit hm hpl hz
      gi_wp2
      refine wpIn_stage (IsSame Wb (fun k => k ≠ gu ∧ k ≠ h + 1)) [0, 1, 2, 3, 4, 5, 6, 7, 8, 9, 11] [] hmx (by kernel_rfl) (isSame_of fun _ _ => rfl) ?_
      change wpStage _ _ _ _ _ _ _ _ (3 + 10) _ _ _
      refine stage_reads [0, 1, 2, 3, 4, 5, 6, 7, 8, 9] 3 _ _ (by kernel_rfl) ?_
      change wpQuietIn _ _ _ _ (fun W => ∃ x : SameAt Wb (fun k => k ≠ gu ∧ k ≠ h + 1), W = x.W) _ _ _
      simp only [pick_cons, pick_nil, List.getElem?_cons_zero, List.getElem?_cons_succ, Option.elim_some]
      repeat (gi_big_quiet_step (fail))
      refine wpQuietIn_nil ?_
      refine stage_one 10 (by kernel_rfl) rfl ?_
      gi_wp2
      refine ⟨trivial, ?_⟩
      rw [show i + n + 1 - i = n + 1 by omega]
      refine (CallsIn.inRound l (callsIn_wide.2 (HEST.out Wb.drew _ q2 q3))).mono ?_
      rintro e W1 ⟨Wd, rfl, hsw, hlw, hvw, hbk, hon⟩
      have HON := Lib.hid (show Only gu Wb W1 from ⟨⟨hon.1.os, hon.1.tape, hon.1.output, hon.1.size, hon.1.block⟩, hon.2.1, hon.2.2⟩)
      have HBK := Lib.hid hbk
      have HW := Lib.hid (And.intro hsw (And.intro hlw hvw))
      have r6 : Blk W1 (h + 1) 52 (U64 Q).toArray := (hon.2.2 (h + 1) (by omega)).trans q6
      have r6c := r6.getU (i := i) (by rw [HLQ.out]; exact hil)
      have r6f := r6.frozen i
      clear hbk hon hsw hlw hvw x0' x1' x5' x7' d0 d1 d5 d7
      gi_wp2
      refine stage_post (isSame_of fun k hk => HON.out.2.2 k hk.1) ?_
      change wpStage _ _ _ _ _ _ _ _ (1 + 1) _ _ _
      refine stage_reads [11] 1 _ _ (by kernel_rfl) ?_
      change wpQuietIn _ _ _ _ (fun W => ∃ x : SameAt Wb (fun k => k ≠ gu ∧ k ≠ h + 1), W = x.W) _ _ _
      simp only [pick_cons, pick_nil, List.getElem?_cons_zero, List.getElem?_cons_succ, Option.elim_some]
      repeat (gi_big_quiet_step (fail))
      refine wpQuietIn_nil ?_
      refine stage_one 12 (by kernel_rfl) rfl ?_
      gi_wp2
      refine stage_post (isSame_of fun k hk => (Below.heap_setCell _ _ _ k hk.2).trans (HON.out.2.2 k hk.1)) ?_
      refine stage_done (by kernel_rfl) ?_
      gi_wp2
      rw [← Int.natCast_ediv]
      obtain ⟨qv, hqv⟩ : ∃ qv, qv = val ((U.drop i).take (n + 1)) / val (toL (y * s)) := ⟨_, rfl⟩
      rw [← hqv]
      have hstep := HLI.out.step hVn (sm_toL _) hlenV htopV (by rw [HLQ.out]; exact hil) HW.out.1 HW.out.2.1 hqv HW.out.2.2
      have hkeep : KeepsOthers Wb W1 := ⟨Nat.le_of_eq HON.out.2.1.symm, fun k ob hk ho => by
        have hne : k ≠ gu := by
          intro e
          rw [e] at hk
          have h2 := q2
          unfold Blk at h2
          rw [h2] at hk
          cases hk
          exact absurd ho (by simp [Obj.isCells])
        exact (HON.out.2.2 k hne).trans hk⟩
      refine ⟨hkeep.trans (KeepsOthers.setCell _ _ _), U.take i ++ (Wd ++ U.drop (i + (n + 1))), Q.set i qv, ?_, ?_, ?_, ?_, ?_, ?_, ?_, ?_, ?_, ?_, r6.setU i qv, ?_⟩
      · rw [List.length_append, List.length_singleton, show lu - n - (pre.length + 1) = i by have := HPL.out; omega]; exact hstep
      · rw [List.length_append, List.length_singleton]; have := HPL.out; omega
      · exact bx_far ((HON.out.2.2 g5 hgun).trans q0) (by intro e; dsimp only at e; omega) _
      · exact bx_far ((HON.out.2.2 (g5 + 1) (by omega)).trans q1) (by intro e; dsimp only at e; omega) _
      · exact bx_far ((HON.out.2.2 h (by omega)).trans q5) (by intro e; dsimp only at e; omega) _
      · exact bx_far ((HON.out.2.2 (h + 1 + 1) (by omega)).trans q7) (by intro e; dsimp only at e; omega) _
      · exact bx_far ((HON.out.2.2 (h + 1 + 1 + 1) (by omega)).trans q8) (by intro e; dsimp only at e; omega) _
      · have h2 := HBK.out.far (p := ⟨h + 1, i, none⟩) (by intro e; dsimp only at e; omega) (.int .u64 (qv : Int))
        rw [show U64 (U.take i ++ (Wd ++ U.drop (i + (n + 1)))) ++ ru = U64 (U.take i) ++ (U64 Wd ++ (U64 (U.drop (i + (n + 1))) ++ ru)) by simp [U64]]
        exact h2
      · exact Blk.far ((HON.out.2.2 gv (by omega)).trans q3) (by intro e; dsimp only at e; omega) _
      · exact Blk.far ((HON.out.2.2 gs (by omega)).trans q4) (by intro e; dsimp only at e; omega) _
      · exact (q9.trans (HON.out.1.mono hwgu)).setCell (p := ⟨h + 1, i, none⟩) (by dsimp only; omega) _
    case done =>
      rintro D ys W hD hS ⟨U, Q, hL, hpl, q0, q1, q5, q7, q8, q2, q3, q4, q6, q9⟩ hK
      have hlen := hS.length
      rw [hlen, Nat.sub_self] at hL
      obtain ⟨e1, e2⟩ := hL.done
      have hrest := hL.rest (sm_toL _) hlenV
      have hOval : val (toL (x * s) ++ [0]) = x * s := by rw [val_snoc, val_toL]; simp
      rw [hOval, val_toL] at e1 e2
      rw [div_scaled s0] at e1
      rw [mod_scaled] at e2
      rw [e2] at hrest
      have hlU : U.length = lu := by rw [hL.lu, hlenO]
      have hlQ : Q.length = lu - n := by have := hL.lq; rw [hlenO] at this; omega
      have HE1 := Lib.hid e1
      have HRS := Lib.hid hrest
      have HLQ := Lib.hid hlQ
      have hsU := hL.su.take n
      have hsQ := hL.sq
      have hrowU : Row W (some ⟨gu, 0, none⟩) (U64 (U.take n)) := by
        have hr := (q2.row).take n
        rw [List.take_append_of_le_length (by rw [U64_length]; omega), ← U64_take] at hr
        exact hr
      have hlUn : (U.take n).length = n := by rw [List.length_take]; omega
      have HLU2 := Lib.hid hlUn
      have d0 := q0.cell
      have d5 := q5.cell
      have d7 := q7.cell
      have ds := q4.getU (i := 0) (Nat.zero_lt_one)
      have hmx : Tryz.prog.follows .mixedOrders = true := by kernel_rfl
      have hg0 := q0.lt
      have hq6l := q6.lt
      have hgsW := q4.lt
      have hgu7 := q2.lt
      have hh := q5.lt
      have hh2 := q7.lt
      clear hL hS e1 e2 hrest hOval hlU hlQ hlUn
      gi_wp2
      have x0' : ∀ X : SameAt W (fun k => k < W.heap.size), X.W.cell? ⟨g5, 0, none⟩ = _ := fun X => X.cell hg0 d0
      have x5' : ∀ X : SameAt W (fun k => k < W.heap.size), X.W.cell? ⟨h, 0, none⟩ = _ := fun X => X.cell hh d5
      have xs' : ∀ X : SameAt W (fun k => k < W.heap.size), X.W.cell? ⟨gs, 0, none⟩ = _ := fun X => X.cell hgsW ds
      refine wpIn_stage (IsSame W (fun k => k < W.heap.size)) [0, 1, 2, 4, 5, 6, 8, 9, 10, 11, 12] [] hmx (by kernel_rfl) (isSame_of fun _ _ => rfl) ?_
      change wpStage _ _ _ _ _ _ _ _ (7 + 6) _ _ _
      refine stage_reads [0, 1, 2, 4, 5, 6] 7 _ _ (by kernel_rfl) ?_
      change wpQuietIn _ _ _ _ (fun W' => ∃ x : SameAt W (fun k => k < W.heap.size), W' = x.W) _ _ _
      simp only [pick_cons, pick_nil, List.getElem?_cons_zero, List.getElem?_cons_succ, Option.elim_some]
      repeat (gi_big_quiet_step (fail))
      refine wpQuietIn_nil ?_
      refine stage_one 3 (by kernel_rfl) rfl ?_
      gi_wp2
      refine ⟨trivial, ?_⟩
      refine (callsIn_wide.2 (trim_any (U.take n) _ n cu W.drew HLU2.out.symm hsU (by rw [HLU2.out]; omega) hcum hrowU)).mono ?_
      rintro e w' ⟨rfl, rfl⟩
      rw [HRS.out]
      gi_wp2
      refine stage_post (isSame_of fun _ _ => rfl) ?_
      refine stage_one 7 (by kernel_rfl) rfl ?_
      gi_wp2
      refine ⟨trivial, ?_⟩
      refine (callsIn_wide.2 (small_any (x % y * s) s _ W.drew (isNat_trim hsU hrowU (by rw [HLU2.out]; omega) hcum HRS.out) ?hlr s0 s1)).mono ?_
      case hlr =>
        rw [← HRS.out]
        have := toL_len_le_of hsU
        rw [HLU2.out] at this
        omega
      rintro e W2 ⟨vr, rfl, hr, hb⟩
      have hb2 : Below W.heap.size W W2 := ⟨hb.os, hb.tape, hb.output, hb.size, hb.block⟩
      have HB2 := Lib.hid hb2
      have HR := Lib.hid hr
      have HWW := Lib.hid (show Below w.heap.size w W2 from q9.trans (hb2.mono q9.size))
      have d7' := (hb2.cell (p := ⟨h + 1 + 1, 0, none⟩) hh2).trans d7
      have hh2' : h + 1 + 1 < W2.heap.size := Nat.lt_of_lt_of_le hh2 hb2.size
      have r6 : Blk W2 (h + 1) 52 (U64 Q).toArray := q6.below hb2 hq6l
      have hK2 : W2.heap[D]? = some (.deferred (some [])) := (hb2.block D (Array.getElem?_eq_some_iff.1 hK).1).trans hK
      have HK2 := Lib.hid hK2
      clear hb hb2 hr hK2 hK
      gi_wp2
      refine stage_post (isSame_below HB2.out (fun _ h => h)) ?_
      change wpStage _ _ _ _ _ _ _ _ (0 + 5) _ _ _
      refine stage_reads [8, 9, 10, 11, 12] 0 _ _ (by kernel_rfl) ?_
      change wpQuietIn _ _ _ _ (fun W' => ∃ x : SameAt W (fun k => k < W.heap.size), W' = x.W) _ _ _
      simp only [pick_cons, pick_nil, List.getElem?_cons_zero, List.getElem?_cons_succ, Option.elim_some]
      repeat (gi_big_quiet_step (fail))
      refine wpQuietIn_nil ?_
      refine stage_done (by kernel_rfl) ?_
      clear x0' x5' xs' d7
      have TKT : True := trivial
      gi_wp2_with (clear TKT; refine ⟨trivial, ?_⟩; gi_at_call 137; refine (callsIn_wide.2 (trim_any Q _ _ _ W2 HLQ.out.symm hsQ (Nat.le_of_eq HLQ.out) (by unfold maxLen; omega) r6.row)).mono ?_; rintro e w' ⟨rfl, rfl⟩)
      refine ⟨by simp, .inl ⟨_, _, rfl, run_takeDeferred HK2.out, ?_⟩⟩
      refine ⟨_, results_tmp2 rfl _ _ _, ⟨.slice (some ⟨h + 1, 0, none⟩) (toL (val Q)).length (lu - n), vr, rfl, ?_, ?_, ?_⟩⟩
      · have hb2 := r6.own_ (B := 0) (grownBy_putObj' _ D (.deferred none)) (fun r e => by cases e; exact ⟨Nat.zero_le _, _, HK2.out, rfl⟩)
        have hfin := isNat_trim hsQ hb2.row (c := lu - n) (Nat.le_of_eq HLQ.out) (by unfold maxLen; omega) HE1.out
        rw [← HE1.out] at hfin ⊢
        exact hfin
      · have h2 := HR.out
        rw [Nat.mul_div_cancel _ s0] at h2
        exact isNat_put h2 HK2.out rfl
      · exact HWW.out.trans (belowK_b (w := w) (Nat.le_refl _) _ D _ _ (by omega) HK2.out rfl rfl)
    case stop =>
      rintro D c pre x' W hD _ h _
      exact h.elim

theorem divmod_any (x y : Nat) (vx vy : Value) (w : World) (hx : IsNat w vx x) (hy : IsNat w vy y) (hlx : (toL x).length ≤ 30000) (hy0 : 0 < y) :
    Calls Tryz.prog 135 #[vx, vy] w fun e w' => ∃ vq vr, e = .returned (.tuple #[vq, vr]) ∧ IsNat w' vq (x / y) ∧ IsNat w' vr (x % y) ∧ Below w.heap.size w w' := by
  by_cases hlt : x < y
  · exact divmod_less x y vx vy w hx hy (by omega) hlt
  · by_cases hl : (toL y).length = 1
    · exact divmod_one x y vx vy w hx hy (by omega) (by omega) hl
    · have := toL_len_pos.2 (show y ≠ 0 by omega)
      exact divmod_long x y vx vy w hx hy hlx (by omega) (by omega)
end Go.Proofs.YtjoifmnolmimkaaGreatDoor
namespace Go.Proofs.YtjoifmnolmimkaaGreatDoor
open Go.RowKit Go.Shelf
open Lim

theorem gcd_step (a b : Nat) : b.gcd (a % b) = a.gcd b := by
  rw [Nat.gcd_comm b, ← Nat.gcd_rec, Nat.gcd_comm]

set_option maxRecDepth 100000 in
set_option maxHeartbeats 1000000 in
theorem gcd_any (x y : Nat) (vx vy : Value) (w : World) (hx : IsNat w vx x) (hy : IsNat w vy y) (hlx : (toL x).length ≤ 30000) (hly : (toL y).length ≤ 30000) :
    Calls Tryz.prog 134 #[vx, vy] w fun e w' => ∃ v, e = .returned v ∧ IsNat w' v (x.gcd y) ∧ Below w.heap.size w w' := by
  have HX := Lib.hid hx
  have HY := Lib.hid hy
  obtain ⟨A, c, rfl, hc, hcm, _⟩ := hx
  obtain ⟨A', c', rfl, hc', hcm', _⟩ := hy
  go_enter Tryz.func134, Tryz.ntmps134
  go_wp2
  go_loopg [0, 1] y (fun k s0 s1 wr => ∃ a b : Nat, IsNat wr s0 a ∧ IsNat wr s1 b ∧ a.gcd b = x.gcd y ∧ (toL a).length ≤ 30000 ∧ (toL b).length ≤ 30000 ∧ b ≤ k ∧ Below w.heap.size w wr)
  case atStart => exact ⟨x, y, HX.out, HY.out, rfl, hlx, hly, Nat.le_refl _, Below.refl _ _⟩
  case round =>
    obtain ⟨a, b, ha, hb, hg, hla, hlb, hbk, hB⟩ := hrel
    have HA := Lib.hid ha
    have HB := Lib.hid hb
    have HG := Lib.hid hg
    have HBW := Lib.hid hB
    obtain ⟨A1, c1, rfl, hc1, hcm1, _⟩ := ha
    obtain ⟨A2, c2, rfl, hc2, hcm2, _⟩ := hb
    clear hg hB
    by_cases hb0 : b = 0
    · subst hb0
      have hl0 : (toL 0).length = 0 := by rw [toL_zero]; rfl
      rw [hl0]
      clear hl0
      go_wp2
      go_ret
      refine ⟨_, rfl, ?_, HBW.out⟩
      have := HG.out
      rw [Nat.gcd_zero_right] at this
      rw [← this]
      exact HA.out
    · have hpos : 0 < b := by omega
      have hlp : (0 : Int) < ((toL b).length : Int) := by have := toL_len_pos.2 hb0; omega
      have TK1 : True := trivial
      clear hb0
      go_wp2_with (clear TK1; go_at_call 135; refine (divmod_any a b _ _ _ HA.out HB.out hla hpos).mono ?_; rintro e w1 ⟨vq, vr, rfl, hq, hr, hb1⟩; have HR := Lib.hid hr; have HB1 := Lib.hid hb1; clear hq hr hb1)
      have hm := Nat.mod_lt a hpos
      go_roundg (a % b)
      case rel => exact ⟨b, a % b, HB.out.below HB1.out, HR.out, (gcd_step a b).trans HG.out, hlb, Nat.le_trans (toL_len_mono (Nat.le_of_lt hm)) hlb, Nat.le_refl _, HBW.out.trans (HB1.out.mono HBW.out.size)⟩
      case measure => omega

theorem zero_any (x : Nat) (vx : Value) (w : World) (hx : IsNat w vx x) :
    Calls Tryz.prog 117 #[vx] w fun e w' => e = .returned (.bool (decide (x = 0))) ∧ w' = w := by
  obtain ⟨A, c, rfl, hc, hcm, _⟩ := hx
  have hd : (((toL x).length : Int) == 0) = decide (x = 0) := by
    by_cases h : x = 0
    · subst h; rw [toL_zero]; rfl
    · have := toL_len_pos.2 h
      rw [decide_eq_false h, beq_eq_false_iff_ne]; omega
  go_enter Tryz.func117, Tryz.ntmps117
  go_wp2
  go_ret
  exact ⟨rfl, rfl⟩
theorem one_any (x : Nat) (vx : Value) (w : World) (hx : IsNat w vx x) :
    Calls Tryz.prog 118 #[vx] w fun e w' => e = .returned (.bool (decide (x = 1))) ∧ w' = w := by
  obtain ⟨A, c, rfl, hc, hcm, hr⟩ := hx
  have e1 : toL 1 = [1] := by rw [toL_pos (by omega)]; simp [B_val, toL_zero]
  by_cases hl : (toL x).length = 1
  · obtain ⟨b, o, rfl, hb, hcell⟩ := hr (by rw [U64_length]; omega)
    have hc0 := hcell 0 _ (U64_get (by omega))
    rw [Nat.add_zero] at hc0
    obtain ⟨z, hz⟩ := List.length_eq_one_iff.1 hl
    have hv := val_toL x
    rw [hz] at hc0 hv
    simp only [List.getElem?_cons_zero, Option.getD_some] at hc0
    simp only [val, Nat.mul_zero, Nat.add_zero] at hv
    subst hv
    rw [hl]
    clear hcell hr hl hc hz
    by_cases h1 : z = 1
    · subst h1
      go_enter Tryz.func118, Tryz.ntmps118
      go_wp2
      go_ret
      exact ⟨rfl, rfl⟩
    · have hd : ((z : Int) == 1) = false := by rw [beq_eq_false_iff_ne]; omega
      have hd2 : decide (z = 1) = false := decide_eq_false h1
      rw [hd2]
      clear h1 hd2
      go_enter Tryz.func118, Tryz.ntmps118
      go_wp2
      go_ret
      exact ⟨rfl, rfl⟩
  · have hd : (((toL x).length : Int) == 1) = false := by rw [beq_eq_false_iff_ne]; omega
    have hd2 : decide (x = 1) = false := decide_eq_false (fun e => hl (by rw [e, e1]; rfl))
    rw [hd2]
    clear hd2 hl e1
    go_enter Tryz.func118, Tryz.ntmps118
    go_wp2
    go_ret
    exact ⟨rfl, rfl⟩
end Go.Proofs.YtjoifmnolmimkaaGreatDoor
namespace Go.Proofs.YtjoifmnolmimkaaGreatDoor.Lim
open Go.Lib

/-- The number of a sign, a numerator and a denominator. -/
def mkQ (m : Bool) (n d : Nat) : Rat := mkRat (if m then -(n : Int) else (n : Int)) d
/-- Whether a number is negative. -/
def ng (q : Rat) : Bool := decide (q.num < 0)
def nm (q : Rat) : Nat := q.num.natAbs

theorem num_of (q : Rat) : q.num = if ng q then -(nm q : Int) else (nm q : Int) := by
  unfold ng nm
  by_cases h : q.num < 0
  · simp [h]; omega
  · simp [h]; omega
theorem den_pos (q : Rat) : 0 < q.den := Nat.pos_of_ne_zero q.den_nz
theorem ng_nm {q : Rat} (h : ng q = true) : nm q ≠ 0 := by
  unfold ng at h; unfold nm
  have := of_decide_eq_true h
  omega
theorem coprime (q : Rat) : (nm q).gcd q.den = 1 := q.reduced
theorem mkQ_self (q : Rat) : mkQ (ng q) (nm q) q.den = q := by
  unfold mkQ
  rw [← num_of, Rat.mkRat_self]
theorem nm_zero {q : Rat} : nm q = 0 ↔ q = 0 := by
  unfold nm
  rw [Int.natAbs_eq_zero, Rat.num_eq_zero]
theorem ext_parts {p q : Rat} (h1 : ng p = ng q) (h2 : nm p = nm q) (h3 : p.den = q.den) : p = q := by
  rw [← mkQ_self p, ← mkQ_self q, h1, h2, h3]

section
variable {m : Bool} {n d : Nat}
theorem mkQ_den (hd : d ≠ 0) : (mkQ m n d).den = d / n.gcd d := by
  unfold mkQ
  rw [Rat.den_mkRat, if_neg hd]
  cases m <;> simp [Nat.gcd_comm]
theorem mkQ_nm (hd : d ≠ 0) : nm (mkQ m n d) = n / n.gcd d := by
  unfold mkQ nm
  rw [Rat.num_mkRat, if_neg hd]
  cases m with
  | false =>
    simp only [Bool.false_eq_true, if_false, Int.natAbs_natCast]
    rw [← Int.natCast_ediv, Int.natAbs_natCast, Nat.gcd_comm]
  | true =>
    simp only [if_true, Int.natAbs_neg, Int.natAbs_natCast]
    have hdv : ((d.gcd n : Nat) : Int) ∣ (n : Int) := Int.natCast_dvd_natCast.2 (Nat.gcd_dvd_right d n)
    rw [Int.neg_ediv_of_dvd hdv, Int.natAbs_neg, ← Int.natCast_ediv, Int.natAbs_natCast, Nat.gcd_comm]
theorem mkQ_ng (hd : d ≠ 0) : ng (mkQ m n d) = (m && decide (n ≠ 0)) := by
  have h := mkQ_nm (m := m) (n := n) hd
  by_cases h0 : n = 0
  · subst h0
    have : mkQ m 0 d = 0 := by unfold mkQ; cases m <;> simp
    rw [this]
    simp [ng]
  · have hg : 0 < d.gcd n := Nat.gcd_pos_of_pos_left _ (Nat.pos_of_ne_zero hd)
    have hpos : 0 < n / d.gcd n := Nat.div_pos (Nat.le_of_dvd (by omega) (Nat.gcd_dvd_right d n)) hg
    unfold ng mkQ
    rw [Rat.num_mkRat, if_neg hd]
    cases m with
    | false =>
      simp only [Bool.false_eq_true, if_false, Int.natAbs_natCast, Bool.false_and, decide_eq_false_iff_not]
      rw [← Int.natCast_ediv]
      omega
    | true =>
      simp only [if_true, Int.natAbs_neg, Int.natAbs_natCast, Bool.true_and]
      have hdv : ((d.gcd n : Nat) : Int) ∣ (n : Int) := Int.natCast_dvd_natCast.2 (Nat.gcd_dvd_right d n)
      rw [Int.neg_ediv_of_dvd hdv, ← Int.natCast_ediv]
      simp [h0]
      omega
theorem mkQ_zero : mkQ m 0 d = 0 := by unfold mkQ; cases m <;> simp
theorem mkQ_one_den : (mkQ m n 1).den = 1 := by rw [mkQ_den (by omega)]; simp
/-- A fraction without common divisors. -/
theorem mkQ_low (hd : d ≠ 0) (h : n.gcd d = 1) : nm (mkQ m n d) = n ∧ (mkQ m n d).den = d ∧ ng (mkQ m n d) = (m && decide (n ≠ 0)) := by
  refine ⟨?_, ?_, mkQ_ng hd⟩
  · rw [mkQ_nm hd, h, Nat.div_one]
  · rw [mkQ_den hd, h, Nat.div_one]
theorem mkQ_scale {k : Nat} (hk : k ≠ 0) : mkQ m (n * k) (d * k) = mkQ m n d := by
  unfold mkQ
  cases m with
  | false => simp only [Bool.false_eq_true, if_false, Int.natCast_mul]; exact Rat.mkRat_mul_right hk
  | true => simp only [if_true, Int.natCast_mul, ← Int.neg_mul]; exact Rat.mkRat_mul_right hk
end

theorem add_same {a b : Rat} (h : ng a = ng b) : a + b = mkQ (ng a) (nm a * b.den + nm b * a.den) (a.den * b.den) := by
  rw [Rat.add_def', num_of a, num_of b, ← h]
  unfold mkQ
  cases ng a <;> simp
  congr 1
  rw [Int.neg_mul, Int.neg_mul]; omega
theorem add_less {a b : Rat} (h : ng a ≠ ng b) (hlt : nm a * b.den < nm b * a.den) : a + b = mkQ (ng b) (nm b * a.den - nm a * b.den) (a.den * b.den) := by
  rw [Rat.add_def', num_of a, num_of b]
  unfold mkQ
  have e : ((nm b * a.den - nm a * b.den : Nat) : Int) = (nm b : Int) * a.den - (nm a : Int) * b.den := by
    rw [Int.natCast_sub (Nat.le_of_lt hlt)]; simp
  rw [e]
  generalize ng a = x at *
  generalize ng b = y at *
  cases x <;> cases y <;> simp at h ⊢ <;> congr 1 <;> rw [Int.neg_mul] <;> omega
theorem add_more {a b : Rat} (h : ng a ≠ ng b) (hlt : ¬ nm a * b.den < nm b * a.den) : a + b = mkQ (ng a) (nm a * b.den - nm b * a.den) (a.den * b.den) := by
  rw [Rat.add_def', num_of a, num_of b]
  unfold mkQ
  have e : ((nm a * b.den - nm b * a.den : Nat) : Int) = (nm a : Int) * b.den - (nm b : Int) * a.den := by
    rw [Int.natCast_sub (Nat.le_of_not_lt hlt)]; simp
  rw [e]
  generalize ng a = x at *
  generalize ng b = y at *
  cases x <;> cases y <;> simp at h ⊢ <;> congr 1 <;> rw [Int.neg_mul] <;> omega
theorem mul_parts (a b : Rat) : a * b = mkQ (ng a != ng b) (nm a * nm b) (a.den * b.den) := by
  rw [Rat.mul_def', num_of a, num_of b]
  unfold mkQ
  cases ng a <;> cases ng b <;> simp [Int.neg_mul, Int.mul_neg]
theorem neg_parts (a : Rat) : ng (-a) = (!ng a && decide (nm a ≠ 0)) ∧ nm (-a) = nm a ∧ (-a).den = a.den := by
  refine ⟨?_, ?_, rfl⟩
  · unfold ng nm
    rw [Rat.neg_num]
    by_cases h : a.num < 0
    · simp [h]; omega
    · by_cases h0 : a.num = 0
      · simp [h0]
      · simp [h, h0]; omega
  · unfold nm; rw [Rat.neg_num]; simp
theorem inv_parts {a : Rat} (h : a ≠ 0) : ng a⁻¹ = ng a ∧ nm a⁻¹ = a.den ∧ (a⁻¹).den = nm a := by
  have hn : a.num ≠ 0 := fun e => h (Rat.num_eq_zero.1 e)
  refine ⟨?_, ?_, ?_⟩
  · unfold ng
    rw [Rat.num_inv]
    have hd := den_pos a
    rcases Int.lt_trichotomy a.num 0 with h1 | h1 | h1
    · rw [Int.sign_eq_neg_one_of_neg h1]; simp [h1]; omega
    · exact absurd h1 hn
    · rw [Int.sign_eq_one_of_pos h1]; simp; omega
  · unfold nm
    rw [Rat.num_inv, Int.natAbs_mul, Int.natAbs_sign_of_ne_zero hn]; simp
  · rw [Rat.den_inv, if_neg hn]; rfl
theorem pow_parts (a : Rat) (n : Nat) : nm (a ^ n) = nm a ^ n ∧ (a ^ n).den = a.den ^ n ∧ ng (a ^ n) = (ng a && decide (n % 2 = 1)) := by
  refine ⟨?_, rfl, ?_⟩
  · unfold nm; rw [Rat.num_pow, Int.natAbs_pow]
  · have key : ∀ (x : Nat), x ≠ 0 → ∀ n : Nat, ((-(x : Int)) ^ n < 0 ↔ n % 2 = 1) := by
      intro x hx n
      rcases Nat.mod_two_eq_zero_or_one n with h | h
      · obtain ⟨k, rfl⟩ : ∃ k, n = 2 * k := ⟨n / 2, by omega⟩
        rw [Int.pow_mul]
        have : (-(x : Int)) ^ 2 = (((x ^ 2 : Nat)) : Int) := by rw [Int.pow_succ, Int.pow_succ]; simp [Nat.pow_succ, Int.neg_mul, Int.mul_neg]
        rw [this, ← Int.natCast_pow]
        omega
      · obtain ⟨k, rfl⟩ : ∃ k, n = 2 * k + 1 := ⟨n / 2, by omega⟩
        rw [Int.pow_succ, Int.pow_mul]
        have : (-(x : Int)) ^ 2 = (((x ^ 2 : Nat)) : Int) := by rw [Int.pow_succ, Int.pow_succ]; simp [Nat.pow_succ, Int.neg_mul, Int.mul_neg]
        rw [this, ← Int.natCast_pow, Int.mul_neg]
        have hp : 0 < (x ^ 2) ^ k * x := Nat.mul_pos (Nat.pow_pos (Nat.pow_pos (Nat.pos_of_ne_zero hx))) (Nat.pos_of_ne_zero hx)
        have : ((((x ^ 2) ^ k : Nat)) : Int) * (x : Int) = (((x ^ 2) ^ k * x : Nat) : Int) := by simp
        rw [this]
        omega
    unfold ng
    rw [Rat.num_pow]
    by_cases h : a.num < 0
    · obtain ⟨x, hx⟩ : ∃ x : Nat, a.num = -(x : Int) := ⟨a.num.natAbs, by omega⟩
      rw [hx]
      have := key x (by omega) n
      simp only [this]
      have h1 : decide (-(x : Int) < 0) = true := by simp; omega
      rw [h1]; simp
    · obtain ⟨x, hx⟩ : ∃ x : Nat, a.num = (x : Int) := ⟨a.num.natAbs, by omega⟩
      rw [hx, ← Int.natCast_pow]
      have h1 : decide ((x : Int) < 0) = false := by simp
      have h2 : decide (((x ^ n : Nat) : Int) < 0) = false := by rw [decide_eq_false_iff_not]; omega
      rw [h1, h2]; rfl

/-! ### texts -/
/-- The text of a number. -/
def ratText (q : Rat) : List UInt8 := (if ng q then [45] else []) ++ decDigits (nm q) ++ (if q.den = 1 then [] else 47 :: decDigits q.den)

theorem not_slash {l : List UInt8} (h : Dg l) : (47 : UInt8) ∉ l := fun hm => by have := isD_iff.1 (h _ hm); simp at this
theorem not_minus {l : List UInt8} (h : Dg l) : (45 : UInt8) ∉ l := fun hm => by have := isD_iff.1 (h _ hm); simp at this

/-- What stands ahead of the first slash, and what behind it. -/
def cutQ (s : List UInt8) : List UInt8 × Option (List UInt8) :=
  if s.contains 47 then (s.takeWhile (· != 47), some ((s.dropWhile (· != 47)).drop 1)) else (s, none)
theorem takeWhile_slash (a r : List UInt8) (h : (47 : UInt8) ∉ a) : (a ++ 47 :: r).takeWhile (· != 47) = a ∧ (a ++ 47 :: r).dropWhile (· != 47) = 47 :: r := by
  induction a with
  | nil => simp
  | cons x a ih =>
    have hx : x ≠ 47 := fun e => h (by simp [e])
    have := ih (fun hm => h (List.mem_cons_of_mem _ hm))
    simp [hx, this]
theorem cutQ_slash {a r : List UInt8} (h : (47 : UInt8) ∉ a) : cutQ (a ++ 47 :: r) = (a, some r) := by
  unfold cutQ
  obtain ⟨h1, h2⟩ := takeWhile_slash a r h
  rw [if_pos (by simp), h1, h2]
  rfl
theorem cutQ_none {s : List UInt8} (h : (47 : UInt8) ∉ s) : cutQ s = (s, none) := by
  unfold cutQ
  rw [if_neg (by simpa using h)]
theorem cutQ_cases (s : List UInt8) : (∃ a r, s = a ++ 47 :: r ∧ (47 : UInt8) ∉ a) ∨ (47 : UInt8) ∉ s := by
  by_cases h : (47 : UInt8) ∈ s
  · left
    induction s with
    | nil => cases h
    | cons x s ih =>
      by_cases hx : x = 47
      · subst hx; exact ⟨[], s, rfl, by simp⟩
      · have hs : (47 : UInt8) ∈ s := by
          rcases List.mem_cons.1 h with e | e
          · exact absurd e.symm hx
          · exact e
        obtain ⟨a, r, e, hn⟩ := ih hs
        exact ⟨x :: a, r, by rw [e]; rfl, by simp [hn]; exact fun e => hx e.symm⟩
  · exact .inr h

/-- An integer's sign and digits. -/
def intP (s : List UInt8) : Bool × List UInt8 := if s.head? = some 45 then (true, s.drop 1) else (false, s)
def intOk (s : List UInt8) : Bool := NForm (intP s).2 && !((intP s).1 && (intP s).2 == [48])
/-- The parts of a text that has the form of a number, perhaps with common divisors. -/
def shapeQ (s : List UInt8) : Option (Bool × Nat × Nat × Bool) :=
  if intOk (cutQ s).1 then
    match (cutQ s).2 with
    | none => some ((intP (cutQ s).1).1, dv (intP (cutQ s).1).2, 1, false)
    | some d => if (intP (cutQ s).1).2 != [48] && (NForm d && (d != [48] && d != [49])) then some ((intP (cutQ s).1).1, dv (intP (cutQ s).1).2, dv d, true) else none
  else none
def maxD : Nat := 4000
/-- The error of a text. -/
def errQ (s : List UInt8) : Nat :=
  match shapeQ s with
  | none => 3
  | some (_, n, d, sl) => if maxD < nDigits n ∨ maxD < nDigits d then 5 else if sl && n.gcd d != 1 then 3 else 0
/-- The number of a text; 0 where it has none. -/
def valQ (s : List UInt8) : Rat :=
  match shapeQ s with
  | none => 0
  | some (m, n, d, _) => mkQ m n d

theorem dec_zero : decDigits 0 = [48] := decDigits_one (by omega)
theorem dec_one : decDigits 1 = [49] := decDigits_one (by omega)
theorem intP_dec (n : Nat) : intP (decDigits n) = (false, decDigits n) := by
  unfold intP
  rw [if_neg]
  intro e
  exact not_minus (decDigits_dg n) (List.mem_of_mem_head? (by rw [e]; rfl))
theorem intP_minus (n : Nat) : intP (45 :: decDigits n) = (true, decDigits n) := by unfold intP; simp
theorem nform_dec (n : Nat) : NForm (decDigits n) = true := NForm_iff.2 ⟨n, rfl⟩
theorem dec_ne_zero {n : Nat} (h : n ≠ 0) : decDigits n ≠ [48] := fun e => h (decDigits_inj (e.trans dec_zero.symm))
theorem dec_ne_one {n : Nat} (h : n ≠ 1) : decDigits n ≠ [49] := fun e => h (decDigits_inj (e.trans dec_one.symm))

/-- The shape of a text written of parts. -/
theorem shapeQ_text (m : Bool) (n d : Nat) (hm : m = true → n ≠ 0) (hd : d ≠ 0) (hn : d ≠ 1 → n ≠ 0) :
    shapeQ ((if m then [45] else []) ++ decDigits n ++ (if d = 1 then [] else 47 :: decDigits d)) = some (m, n, d, decide (d ≠ 1)) := by
  have hi : intP ((if m then [45] else []) ++ decDigits n) = (m, decDigits n) := by
    cases m with
    | false => simpa using intP_dec n
    | true => simpa using intP_minus n
  have hok : intOk ((if m then [45] else []) ++ decDigits n) = true := by
    unfold intOk
    rw [hi]
    simp only [nform_dec, Bool.true_and, Bool.not_eq_true', Bool.and_eq_false_iff]
    cases m with
    | false => left; rfl
    | true => right; simpa using dec_ne_zero (hm rfl)
  have hns : (47 : UInt8) ∉ (if m then [45] else []) ++ decDigits n := by
    intro h
    rcases List.mem_append.1 h with h | h
    · cases m <;> simp at h
    · exact not_slash (decDigits_dg n) h
  unfold shapeQ
  by_cases h1 : d = 1
  · subst h1
    rw [if_pos rfl, List.append_nil, cutQ_none hns]
    dsimp only
    rw [if_pos hok, hi, dv_decDigits]
    simp
  · rw [if_neg h1, cutQ_slash hns]
    dsimp only
    rw [if_pos hok, hi, dv_decDigits, dv_decDigits]
    have e1 := dec_ne_zero (hn h1)
    have e2 := dec_ne_zero hd
    have e3 := dec_ne_one h1
    simp [e1, e2, e3, nform_dec, h1]
/-- What has a shape is written of its parts. -/
theorem text_of_shape {s : List UInt8} {m sl : Bool} {n d : Nat} (h : shapeQ s = some (m, n, d, sl)) :
    s = (if m then [45] else []) ++ decDigits n ++ (if d = 1 then [] else 47 :: decDigits d) ∧ (m = true → n ≠ 0) ∧ d ≠ 0 ∧ sl = decide (d ≠ 1) ∧ (d ≠ 1 → n ≠ 0) := by
  have hint : ∀ t, intOk t = true → t = (if (intP t).1 then [45] else []) ++ decDigits (dv (intP t).2) ∧ ((intP t).1 = true → dv (intP t).2 ≠ 0) := by
    intro t ht
    unfold intOk at ht
    simp only [Bool.and_eq_true, Bool.not_eq_true', Bool.and_eq_false_iff] at ht
    obtain ⟨h1, h2⟩ := ht
    rw [(NForm.eq h1)]
    refine ⟨?_, fun hm => ?_⟩
    · unfold intP
      by_cases hh : t.head? = some 45
      · rw [if_pos hh]
        cases t with
        | nil => cases hh
        | cons x r => simp at hh; subst hh; simp
      · rw [if_neg hh]; simp
    · rcases h2 with h2 | h2
      · rw [hm] at h2; cases h2
      · intro h0
        have := (NForm.eq h1)
        rw [h0, dec_zero] at this
        rw [← this] at h2
        simp at h2
  unfold shapeQ at h
  split at h
  · rename_i hok
    obtain ⟨e1, e2⟩ := hint _ hok
    rcases cutQ_cases s with ⟨a, r, rfl, hn⟩ | hn
    · rw [cutQ_slash hn] at h hok e1 e2
      dsimp only at h hok e1 e2
      split at h
      · rename_i hc
        simp only [Option.some.injEq, Prod.mk.injEq] at h
        obtain ⟨rfl, rfl, rfl, rfl⟩ := h
        simp only [Bool.and_eq_true, bne_iff_ne, ne_eq] at hc
        obtain ⟨c1, c2, c3, c4⟩ := hc
        have hr := (NForm.eq c2)
        have hd0 : dv r ≠ 0 := fun e => by rw [e, dec_zero] at hr; exact c3 hr.symm
        have hd1 : dv r ≠ 1 := fun e => by rw [e, dec_one] at hr; exact c4 hr.symm
        refine ⟨?_, e2, hd0, by simp [hd1], fun _ h0 => ?_⟩
        · rw [if_neg hd1, hr, ← e1]
        · have hok2 := hok
          unfold intOk at hok2
          simp only [Bool.and_eq_true] at hok2
          have := (NForm.eq hok2.1)
          rw [h0, dec_zero] at this
          exact c1 this.symm
      · cases h
    · rw [cutQ_none hn] at h hok e1 e2
      dsimp only at h hok e1 e2
      simp only [Option.some.injEq, Prod.mk.injEq] at h
      obtain ⟨rfl, rfl, rfl, rfl⟩ := h
      refine ⟨by simpa using e1, e2, by omega, by simp, fun h => absurd rfl h⟩
  · cases h

theorem shapeQ_rat (q : Rat) : shapeQ (ratText q) = some (ng q, nm q, q.den, decide (q.den ≠ 1)) := by
  refine shapeQ_text _ _ _ ng_nm q.den_nz (fun h h0 => h ?_)
  have := coprime q
  rw [h0] at this
  simpa using this
theorem valQ_rat (q : Rat) : valQ (ratText q) = q := by unfold valQ; rw [shapeQ_rat]; exact mkQ_self q
theorem errQ_rat {q : Rat} (h1 : nDigits (nm q) ≤ maxD) (h2 : nDigits q.den ≤ maxD) : errQ (ratText q) = 0 := by
  unfold errQ
  rw [shapeQ_rat]
  dsimp only
  rw [if_neg (by omega), coprime]
  simp
theorem ratText_inj {p q : Rat} (h : ratText p = ratText q) : p = q := by
  have := congrArg valQ h
  rwa [valQ_rat, valQ_rat] at this
/-- A text without an error is the text of its number. -/
theorem text_of_ok {s : List UInt8} (h : errQ s = 0) : s = ratText (valQ s) ∧ nDigits (nm (valQ s)) ≤ maxD ∧ nDigits (valQ s).den ≤ maxD := by
  unfold errQ at h
  unfold valQ
  cases hs : shapeQ s with
  | none => rw [hs] at h; simp at h
  | some x =>
    obtain ⟨m, n, d, sl⟩ := x
    rw [hs] at h
    dsimp only at h ⊢
    obtain ⟨e1, e2, e3, e4, e5⟩ := text_of_shape hs
    split at h
    · cases h
    · rename_i hmx
      split at h
      · cases h
      · rename_i hg
        have hgc : n.gcd d = 1 := by
          by_cases h1 : d = 1
          · subst h1; simp
          · rw [e4] at hg; simpa [h1] using hg
        obtain ⟨q1, q2, q3⟩ := mkQ_low (m := m) e3 hgc
        have q4 : ng (mkQ m n d) = m := by
          rw [q3]
          cases m with
          | false => rfl
          | true => simpa using e2 rfl
        refine ⟨?_, by rw [q1]; omega, by rw [q2]; omega⟩
        unfold ratText
        rw [q1, q2, q4]
        exact e1
theorem errQ_zero {s : List UInt8} : errQ s = 0 ↔ ∃ q : Rat, s = ratText q ∧ nDigits (nm q) ≤ maxD ∧ nDigits q.den ≤ maxD :=
  ⟨fun h => ⟨_, text_of_ok h⟩, fun ⟨_, e, h1, h2⟩ => by rw [e]; exact errQ_rat h1 h2⟩

/-- The kit's cut at a slash. -/
theorem index_slash : ∀ (a r : List UInt8), (47 : UInt8) ∉ a → Lib.index (a ++ 47 :: r) [47] = (a.length : Int)
  | [], r, _ => by unfold Lib.index; simp [List.isPrefixOf]
  | x :: a, r, h => by
    have hx : (47 : UInt8) ≠ x := fun e => h (by simp [e])
    have ih := index_slash a r (fun hm => h (List.mem_cons_of_mem _ hm))
    have h1 : ([47] : List UInt8).isPrefixOf (x :: (a ++ 47 :: r)) = false := by simp [List.isPrefixOf, hx]
    rw [List.cons_append, Lib.index, h1, ih]
    have h2 : ((a.length : Int) == -1) = false := by rw [beq_eq_false_iff_ne]; omega
    rw [h2]
    simp
theorem index_noslash : ∀ (s : List UInt8), (47 : UInt8) ∉ s → Lib.index s [47] = -1
  | [], _ => by unfold Lib.index; simp
  | x :: a, h => by
    have hx : (47 : UInt8) ≠ x := fun e => h (by simp [e])
    have ih := index_noslash a (fun hm => h (List.mem_cons_of_mem _ hm))
    have h1 : ([47] : List UInt8).isPrefixOf (x :: a) = false := by simp [List.isPrefixOf, hx]
    rw [Lib.index, h1, ih]
    simp
theorem cut_eq (s : List UInt8) : Lib.cut s [47] = ((cutQ s).1, (cutQ s).2.getD [], (cutQ s).2.isSome) := by
  unfold Lib.cut
  rcases cutQ_cases s with ⟨a, r, rfl, hn⟩ | hn
  · rw [index_slash a r hn, cutQ_slash hn, if_pos (by omega)]
    simp
  · rw [index_noslash s hn, cutQ_none hn, if_neg (by omega)]
    simp

/-! ### what the functions of numbers return -/
/-- A number's text, or the error of a number that is too long. -/
def outQ (q : Rat) : List UInt8 × Nat := if maxD < nDigits (nm q) ∨ maxD < nDigits q.den then ([], 5) else (ratText q, 0)
def oneQ (f : Rat → List UInt8 × Nat) (a : List UInt8) : List UInt8 × Nat := if errQ a ≠ 0 then ([], errQ a) else f (valQ a)
def twoQ (f : Rat → Rat → List UInt8 × Nat) (a b : List UInt8) : List UInt8 × Nat :=
  if errQ a ≠ 0 then ([], errQ a) else if errQ b ≠ 0 then ([], errQ b) else f (valQ a) (valQ b)

end Go.Proofs.YtjoifmnolmimkaaGreatDoor.Lim
namespace Go.Proofs.YtjoifmnolmimkaaGreatDoor.Lim
open Go.Lib

/-- Both parts have at most k digits. -/
def Sz (k : Nat) (q : Rat) : Prop := nm q < 10 ^ k ∧ q.den < 10 ^ k
theorem pow_le {j k : Nat} (h : j ≤ k) : 10 ^ j ≤ 10 ^ k := Nat.pow_le_pow_right (by omega) h
theorem Sz.mono {j k : Nat} {q : Rat} (h : Sz j q) (hk : j ≤ k) : Sz k q := ⟨Nat.lt_of_lt_of_le h.1 (pow_le hk), Nat.lt_of_lt_of_le h.2 (pow_le hk)⟩
theorem Sz.pos {k : Nat} {q : Rat} (h : Sz k q) : 0 < k := by
  rcases Nat.eq_zero_or_pos k with rfl | hk
  · have := h.2; have := den_pos q; omega
  · exact hk
theorem nDigits_iff {n k : Nat} (hk : 0 < k) : nDigits n ≤ k ↔ n < 10 ^ k := ⟨le_of_nDigits, nDigits_le hk⟩
theorem sz_iff {k : Nat} (hk : 0 < k) {q : Rat} : Sz k q ↔ nDigits (nm q) ≤ k ∧ nDigits q.den ≤ k := by
  unfold Sz; rw [nDigits_iff hk, nDigits_iff hk]
theorem outQ_ok {k : Nat} {q : Rat} (h : Sz k q) (hk : k ≤ maxD) : outQ q = (ratText q, 0) := by
  obtain ⟨h1, h2⟩ := (sz_iff h.pos).1 h
  unfold outQ; rw [if_neg (by omega)]
theorem errQ_ok {k : Nat} {q : Rat} (h : Sz k q) (hk : k ≤ maxD) : errQ (ratText q) = 0 := by
  obtain ⟨h1, h2⟩ := (sz_iff h.pos).1 h
  exact errQ_rat (by omega) (by omega)

theorem mkQ_nm_le {m : Bool} {n d : Nat} (hd : d ≠ 0) : nm (mkQ m n d) ≤ n := by rw [mkQ_nm hd]; exact Nat.div_le_self _ _
theorem mkQ_den_le {m : Bool} {n d : Nat} (hd : d ≠ 0) : (mkQ m n d).den ≤ d := by rw [mkQ_den hd]; exact Nat.div_le_self _ _
theorem mul_lt_pow {a b j k : Nat} (ha : a < 10 ^ j) (hb : b < 10 ^ k) : a * b < 10 ^ (j + k) := by
  rw [Nat.pow_add]; exact Nat.mul_lt_mul'' ha hb
section
variable {j k : Nat} {a b : Rat}
theorem Sz.add (ha : Sz j a) (hb : Sz k b) : Sz (j + k + 1) (a + b) := by
  have x := mul_lt_pow ha.1 hb.2
  have y := mul_lt_pow hb.1 ha.2
  have d := mul_lt_pow ha.2 hb.2
  rw [Nat.add_comm k j] at y
  have hd : a.den * b.den ≠ 0 := Nat.ne_of_gt (Nat.mul_pos (den_pos a) (den_pos b))
  have hp : 10 ^ (j + k + 1) = 10 ^ (j + k) * 10 := Nat.pow_succ ..
  by_cases h : ng a = ng b
  · rw [add_same h]
    have h1 := mkQ_nm_le (m := ng a) (n := nm a * b.den + nm b * a.den) hd
    have h2 := mkQ_den_le (m := ng a) (n := nm a * b.den + nm b * a.den) hd
    exact ⟨by omega, by omega⟩
  · by_cases hlt : nm a * b.den < nm b * a.den
    · rw [add_less h hlt]
      have h1 := mkQ_nm_le (m := ng b) (n := nm b * a.den - nm a * b.den) hd
      have h2 := mkQ_den_le (m := ng b) (n := nm b * a.den - nm a * b.den) hd
      exact ⟨by omega, by omega⟩
    · rw [add_more h hlt]
      have h1 := mkQ_nm_le (m := ng a) (n := nm a * b.den - nm b * a.den) hd
      have h2 := mkQ_den_le (m := ng a) (n := nm a * b.den - nm b * a.den) hd
      exact ⟨by omega, by omega⟩
theorem Sz.mul (ha : Sz j a) (hb : Sz k b) : Sz (j + k) (a * b) := by
  have x := mul_lt_pow ha.1 hb.1
  have d := mul_lt_pow ha.2 hb.2
  have hd : a.den * b.den ≠ 0 := Nat.ne_of_gt (Nat.mul_pos (den_pos a) (den_pos b))
  rw [mul_parts]
  exact ⟨Nat.lt_of_le_of_lt (mkQ_nm_le hd) x, Nat.lt_of_le_of_lt (mkQ_den_le hd) d⟩
theorem Sz.neg (ha : Sz j a) : Sz j (-a) := by
  obtain ⟨_, h1, h2⟩ := neg_parts a
  exact ⟨by rw [h1]; exact ha.1, by rw [h2]; exact ha.2⟩
theorem Sz.sub (ha : Sz j a) (hb : Sz k b) : Sz (j + k + 1) (a - b) := by
  rw [Rat.sub_eq_add_neg]; exact ha.add hb.neg
theorem Sz.inv (ha : Sz j a) : Sz j a⁻¹ := by
  by_cases h : a = 0
  · subst h; rw [Rat.inv_zero]; exact ha
  · obtain ⟨_, h1, h2⟩ := inv_parts h
    exact ⟨by rw [h1]; exact ha.2, by rw [h2]; exact ha.1⟩
theorem Sz.one : Sz 1 1 := ⟨by decide, by decide⟩
theorem Sz.zero : Sz 1 0 := ⟨by decide, by decide⟩
theorem pow_lt_pow {x j : Nat} (h : x < 10 ^ j) : ∀ n, 0 < n → x ^ n < 10 ^ (j * n) := fun n hn => by
  rw [Nat.pow_mul]; exact Nat.pow_lt_pow_left h (by omega)
theorem Sz.pow (ha : Sz j a) (n : Nat) : Sz (j * n + 1) (a ^ n) := by
  rcases Nat.eq_zero_or_pos n with rfl | hn
  · rw [Rat.pow_zero]; exact Sz.one.mono (by omega)
  · obtain ⟨h1, h2, _⟩ := pow_parts a n
    have hx := pow_lt_pow ha.1 n hn
    have hy := pow_lt_pow ha.2 n hn
    have hp := pow_le (show j * n ≤ j * n + 1 by omega)
    exact ⟨by rw [h1]; omega, by rw [h2]; omega⟩
end

/-- A short text is the text of a short number. -/
theorem ratText_len (q : Rat) : nDigits (nm q) ≤ (ratText q).length ∧ nDigits q.den ≤ (ratText q).length := by
  unfold ratText
  simp only [List.length_append, decDigits_length]
  have := nDigits_pos (nm q)
  refine ⟨by omega, ?_⟩
  by_cases h : q.den = 1
  · rw [h, nDigits_small (by omega)]; simp; omega
  · rw [if_neg h, List.length_cons, decDigits_length]; omega
theorem sz_of_text {s : List UInt8} (h : errQ s = 0) {k : Nat} (hk : s.length ≤ k) : Sz k (valQ s) := by
  obtain ⟨e, _, _⟩ := text_of_ok h
  obtain ⟨h1, h2⟩ := ratText_len (valQ s)
  rw [← e] at h1 h2
  have := nDigits_pos (nm (valQ s))
  exact (sz_iff (by omega)).2 ⟨by omega, by omega⟩
theorem sz_max {s : List UInt8} (h : errQ s = 0) : Sz maxD (valQ s) := by
  obtain ⟨_, h1, h2⟩ := text_of_ok h
  exact (sz_iff (by decide)).2 ⟨h1, h2⟩
/-- How many limbs. -/
theorem limbs_of {n k : Nat} (h : n < 10 ^ (9 * k)) : (toL n).length ≤ k := toL_len_le (by rw [B_pow]; exact h)
theorem Sz.limbs {k : Nat} {q : Rat} (h : Sz (9 * k) q) : (toL (nm q)).length ≤ k ∧ (toL q.den).length ≤ k := ⟨limbs_of h.1, limbs_of h.2⟩

end Go.Proofs.YtjoifmnolmimkaaGreatDoor.Lim
