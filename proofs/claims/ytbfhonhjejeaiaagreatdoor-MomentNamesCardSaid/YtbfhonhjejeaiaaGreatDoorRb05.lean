/- limbs.Nat.DivMod: long division. limbs.Nat.Gcd, Zero, One. Rational numbers as a sign and two natural numbers, and their texts. No program in sight. How long rational numbers are. No program in sight. frac: fractions. -/
import Derived.Test.YtbfhonhjejeaiaaGreatDoorRb04
import Derived.Sort.CutIn
import Derived.Lib.IndexMore
import Derived.Test.YtbfhonhjejeaiaaGreatDoorRb03
namespace Go.Proofs.YtbfhonhjejeaiaaGreatDoor
open Go.RowKit Go.Shelf
open Lim

attribute [local go_sem] Oper.semAt_some
attribute [local go_sem ↓] inAt_zero inAt_succ

theorem toL_small {s : Nat} (h0 : 0 < s) (h : s < B) : toL s = [s] := by
  rw [toL_pos (by omega), Nat.mod_eq_of_lt h, Nat.div_eq_of_lt h, toL_zero]
/-- A new block of one limb. -/
theorem isNat_cell {w : World} {g : Nat} {s : Nat} (h0 : 0 < s) (h : s < B) (hg : w.cell? ⟨g, 0, none⟩ = some (.int .u64 (s : Int))) (hb : g < w.heap.size) : IsNat w (.slice (some ⟨g, 0, none⟩) 1 1) s := by
  have e := toL_small h0 h
  refine ⟨some ⟨g, 0, none⟩, 1, by rw [e]; rfl, by rw [e]; exact Nat.le_refl _, by unfold maxLen; omega, fun _ => ⟨g, 0, rfl, hb, fun j u hu => ?_⟩⟩
  rw [e] at hu
  cases j with
  | zero => simp [U64] at hu; subst hu; exact hg
  | succ j => simp [U64] at hu

/-- What a row of the call's own is, written out. -/
theorem owns_blk {w : World} {base n : Nat} {v : Value} {xs : List Nat} (h : w.ownsRow base 201 1 v n (U64 xs)) (hn : 0 < n) :
    ∃ (g cap : Nat) (rest : List Value), v = .slice (some ⟨g, 0, none⟩) n cap ∧ base ≤ g ∧ Blk w g 201 (U64 xs ++ rest).toArray ∧ n ≤ cap ∧ cap ≤ maxLen ∧ n = xs.length := by
  have hl : n = xs.length := by have := h.1; rw [U64_length] at this; omega
  rcases h.2 with ⟨_, h0⟩ | ⟨g, cap, cur, e, hb, hh, h1, h2, _, h4⟩
  · omega
  · refine ⟨g, cap, cur.toList.drop n, e, hb, ?_, h1, h2, hl⟩
    have e2 : U64 xs ++ cur.toList.drop n = cur.toList := by
      rw [← h4, Nat.mul_one, List.take_append_drop]
    rw [e2]
    exact hh

theorem isNat_put {W : World} {v : Value} {n D : Nat} {o o' : Obj} (h : IsNat W v n) (hk : W.heap[D]? = some o) (ho : o.isCells = false) : IsNat (W.putObj D o') v n := by
  obtain ⟨A, c, e, h1, h2, h3⟩ := h
  refine ⟨A, c, e, h1, h2, fun h0 => ?_⟩
  obtain ⟨b, q, rfl, hb, hc⟩ := h3 h0
  have hg := grownBy_putObj' W D o'
  exact ⟨b, q, rfl, Nat.lt_of_lt_of_le hb hg.size, fun j x hx => cell_kept (hc j x hx) hg (fun r e => by cases e; exact ⟨_, hk, ho⟩)⟩

set_option maxRecDepth 100000 in
set_option maxHeartbeats 4000000 in
theorem divmod_long (x y : Nat) (vx vy : Value) (w : World) (hx : IsNat w vx x) (hy : IsNat w vy y) (hlx : (toL x).length ≤ 30000) (hge : y ≤ x) (hl2 : 2 ≤ (toL y).length) :
    Calls Tryz.prog 195 #[vx, vy] w fun e w' => ∃ vq vr, e = .returned (.tuple #[vq, vr]) ∧ IsNat w' vq (x / y) ∧ IsNat w' vr (x % y) ∧ Below w.heap.size w w' := by
  have HX := Lib.hid hx
  have HY := Lib.hid hy
  have hy0 : 0 < y := by
    rcases Nat.eq_zero_or_pos y with h0 | h0
    · subst h0; rw [toL_zero] at hl2; simp at hl2
    · exact h0
  have hly : (toL y).length ≤ (toL x).length := toL_len_mono hge
  obtain ⟨s, hs⟩ : ∃ s, s = B / ((toL y)[(toL y).length - 1]?.getD 0 + 1) := ⟨_, rfl⟩
  obtain ⟨s0, s1, s2⟩ := scaled_len hy0 hs
  have HS2 := Lib.hid s2
  obtain ⟨A, c, rfl, hc, hcm, _⟩ := hx
  obtain ⟨A', c', rfl, hc', hcm', hrow⟩ := hy
  obtain ⟨b, o, rfl, hb, hcell⟩ := hrow (by rw [U64_length]; omega)
  have hc0 := hcell ((toL y).length - 1) _ (U64_get (by omega))
  have htop := (sm_toL y).get ((toL y).length - 1)
  have hd : decide (sgn x y < 0) = false := by
    rcases Nat.lt_or_ge y x with h | h
    · rw [sgn_gt h]; rfl
    · rw [Nat.le_antisymm h hge, sgn_self]; rfl
  have hne1 : (((toL y).length : Int) == 1) = false := by rw [beq_eq_false_iff_ne]; omega
  have HGE := Lib.hid hge
  obtain ⟨i0, hi, hz0, hz1, hz2⟩ := info_parts Tryz.infoU
  clear hcell hrow hge s2
  generalize (toL y)[(toL y).length - 1]?.getD 0 = top at *
  have e1 : (1000000000 : Int) / ((top : Int) + 1) = (s : Int) := by rw [hs, B_val, Int.natCast_ediv]; rfl
  rw [B_val] at s1 htop
  clear hs
  refine (callsIn_wide (n := 3)).1 ?_
  have h1 : 1 ≤ 3 := by omega
  refine callsIn_of_wp_marks Tryz.func195 rfl trivial ?_ rfl
  simp only [Tryz.ntmps195, List.size_toArray, List.length_cons, List.length_nil, Nat.reduceAdd, Nat.reduceSub, Array.replicate_succ, Array.replicate_zero, List.push_toArray, List.append_toArray, List.nil_append, List.cons_append]
  have TK1 : True := trivial
  have TK2 : True := trivial
  have TK3 : True := trivial
  have TK4 : True := trivial
  gi_upto_region 7 with (clear TK1; refine ⟨trivial, ?_⟩; gi_at_call 162; refine (callsIn_wide.2 (cmp_any x y _ _ _ HX.out HY.out (by omega))).mono ?_; rintro e w1 ⟨rfl, hb1⟩; have HB1 := Lib.hid hb1; have hc1 := (hb1.cell (p := ⟨b, o + ((toL y).length - 1), none⟩) hb).trans hc0; have hbs : b < w1.heap.size := Nat.lt_of_lt_of_le hb hb1.size; clear hb1)
  have hbk : Blk (w1.alloc (.cells #[.int .u64 (s : Int)] 201)) w1.heap.size 201 (U64 [s]).toArray := Blk.new _ _ _
  have hB2 : Below w.heap.size w (w1.alloc (.cells #[.int .u64 (s : Int)] 201)) := HB1.out.alloc (HB1.out.size) _
  have hgs : w1.heap.size < (w1.alloc (.cells #[.int .u64 (s : Int)] 201)).heap.size := by simp
  have hwg : w.heap.size ≤ w1.heap.size := HB1.out.size
  generalize w1.alloc (.cells #[.int .u64 (s : Int)] 201) = W2 at *
  generalize w1.heap.size = gs at *
  have HSC := Lib.hid (isNat_cell (w := W2) (g := gs) s0 (by rw [B_val]; exact s1) (hbk.getU (i := 0) (Nat.zero_lt_one)) hgs)
  have HGB := Lib.hid hbk
  have HB2 := Lib.hid hB2
  clear hc1 hbs HB1 hc0 hbk hB2 e1 hd
  have hm1 : (toL s).length ≤ 40000 := by rw [toL_small s0 (by rw [B_val]; exact s1)]; exact Nat.le_of_ble_eq_true rfl
  have hlen1 : (toL (x * s)).length ≤ (toL x).length + 1 := toL_len_le (scaled_a_lt (by rw [B_val]; exact s1))
  have hlen0 : (toL x).length ≤ (toL (x * s)).length := toL_len_mono (Nat.le_mul_of_pos_right _ s0)
  gi_upto_region 8 with (first
    | (clear TK2; refine ⟨trivial, ?_⟩; gi_at_call 161; refine (callsIn_wide.2 (mul_own x s _ _ _ (HX.out.below HB2.out) HSC.out (by omega) hm1)).mono ?_; rintro e w3 ⟨v3, rfl, ho, hb⟩; obtain ⟨A3, c3, rfl⟩ := slice_of_owns ho; have HO3 := Lib.hid ho; have HB3 := Lib.hid hb; have hs3 := hb.size; clear ho hb)
    | (clear TK3; gi_at_builtin; go_loud (refine wpListIn_append_own _ rfl _ _ 158 rfl W2.heap.size 201 i0 (.int .u64 0) 1 8 Tryz.underlying158 hi hz0 hz1 hz2 rfl (by decide) _ _ _ rfl (HO3.out.alloc _) ⟨w3.heap.size, 0, none⟩ 1 1 [.int .u64 0] rfl rfl (cell_one_new _ _ _) (by simp [Value.oneCell']) (by unfold maxLen; omega) (by omega) (by simp; omega) ?_; intro v4 w4 hown4 hgrow4 _); have hb4 : Below W2.heap.size W2 w4 := (HB3.out.alloc hs3 _).grown hgrow4 (by simp; omega) (fun k e => (HO3.out.lt k e).1); have hs4 := hb4.size; have HB4 := Lib.hid hb4; obtain ⟨gu, cu, ru, rfl, hgu, hbu, hcu, hcum, hlu⟩ := owns_blk (xs := toL (x * s) ++ [0]) (by rw [← U64_snoc]; exact hown4) (by omega); have HBU := Lib.hid hbu; have HLU := Lib.hid (And.intro hgu (And.intro hcu (And.intro hcum hlu))); have hgu4 := hbu.lt; clear hown4 hgrow4 hb4 hbu hgu hcu hcum hlu)
    | (clear TK4; refine ⟨trivial, ?_⟩; gi_at_call 161; go_loud (refine (callsIn_wide.2 (mul_own y s _ _ _ ((HY.out.below HB2.out).below HB4.out) (HSC.out.below HB4.out) (by omega) hm1)).mono ?_; rintro e w5 ⟨v5, rfl, ho, hb⟩; obtain ⟨gv, cv, rv, rfl, hgv, hbv, hcv, hcvm, hlv⟩ := owns_blk ho (by rw [HS2.out]; omega); have HBV := Lib.hid hbv; have HLV := Lib.hid (And.intro hgv (And.intro hcv hcvm)); have HB5 := Lib.hid hb; have hs5 := hb.size; clear ho hb hbv hgv hcv hcvm hlv)))
  have c0 : Boxed ((w5.alloc (.cells #[.slice (some ⟨gu, 0, none⟩) ((toL (x * s)).length + 1) cu] 158)).alloc (.cells #[.slice (some ⟨gv, 0, none⟩) (toL (y * s)).length cv] 158)) w5.heap.size 158 _ := (Boxed.new w5 _ _).alloc _
  have c1 : Boxed ((w5.alloc (.cells #[.slice (some ⟨gu, 0, none⟩) ((toL (x * s)).length + 1) cu] 158)).alloc (.cells #[.slice (some ⟨gv, 0, none⟩) (toL (y * s)).length cv] 158)) (w5.heap.size + 1) 158 (.slice (some ⟨gv, 0, none⟩) (toL (y * s)).length cv) := by
    have := Boxed.new (w5.alloc (.cells #[.slice (some ⟨gu, 0, none⟩) ((toL (x * s)).length + 1) cu] 158)) 158 (.slice (some ⟨gv, 0, none⟩) (toL (y * s)).length cv)
    rwa [World.size_alloc] at this
  have k0 := ((HBU.out.below HB5.out hgu4).alloc (.cells #[.slice (some ⟨gu, 0, none⟩) ((toL (x * s)).length + 1) cu] 158)).alloc (.cells #[.slice (some ⟨gv, 0, none⟩) (toL (y * s)).length cv] 158)
  have k1 := (HBV.out.alloc (.cells #[.slice (some ⟨gu, 0, none⟩) ((toL (x * s)).length + 1) cu] 158)).alloc (.cells #[.slice (some ⟨gv, 0, none⟩) (toL (y * s)).length cv] 158)
  have k2 := (((HGB.out.below HB4.out hgs).below HB5.out (Nat.lt_of_lt_of_le hgs hs4)).alloc (.cells #[.slice (some ⟨gu, 0, none⟩) ((toL (x * s)).length + 1) cu] 158)).alloc (.cells #[.slice (some ⟨gv, 0, none⟩) (toL (y * s)).length cv] 158)
  have k3 : Below w.heap.size w ((w5.alloc (.cells #[.slice (some ⟨gu, 0, none⟩) ((toL (x * s)).length + 1) cu] 158)).alloc (.cells #[.slice (some ⟨gv, 0, none⟩) (toL (y * s)).length cv] 158)) := by
    have hb : Below w.heap.size w w5 := HB2.out.trans ((HB4.out.trans (HB5.out.mono hs4)).mono HB2.out.size)
    exact (hb.alloc hb.size _).alloc (by simp; have := hb.size; omega) _
  have hgv4 : w4.heap.size ≤ gv := HLV.out.1
  have hgv5 : gv < w5.heap.size := HBV.out.lt
  have hgus : W2.heap.size ≤ gu := HLU.out.1
  have hsz6 : ((w5.alloc (.cells #[.slice (some ⟨gu, 0, none⟩) ((toL (x * s)).length + 1) cu] 158)).alloc (.cells #[.slice (some ⟨gv, 0, none⟩) (toL (y * s)).length cv] 158)).heap.size = w5.heap.size + 1 + 1 := by simp
  generalize (w5.alloc (.cells #[.slice (some ⟨gu, 0, none⟩) ((toL (x * s)).length + 1) cu] 158)).alloc (.cells #[.slice (some ⟨gv, 0, none⟩) (toL (y * s)).length cv] 158) = W6 at *
  have hgv6 : gu < gv := by omega
  have hgs6 : gs < gu := by omega
  have hcu := HLU.out.2.1
  have hcum := HLU.out.2.2.1
  have hcv := HLV.out.2.1
  have hwb : w.heap.size ≤ w5.heap.size := by have := HB2.out.size; omega
  have hwgu : w.heap.size ≤ gu := by have := HB2.out.size; omega
  generalize w5.heap.size = g5 at *
  have HS6 := Lib.hid hsz6
  clear hsz6 hgus hgv4 HBU HBV HGB HB5 HB4 HB3 HO3 HLV HLU hs3 hs4 hs5 hgu4 HSC hgs
  have hx0 := HB2.out.size
  clear HB2 hx0
  generalize hnv : (toL (y * s)).length = nv at *
  have hnv2 : nv = (toL y).length := HS2.out
  clear HS2
  subst hnv2
  have hyx : (toL y).length ≤ (toL (x * s)).length := by omega
  have hnle : (toL x).length < (toL (x * s)).length + 1 := by omega
  have HLN := Lib.hid (show (toL (x * s) ++ [0]).length = (toL (x * s)).length + 1 by simp)
  have HS3 := Lib.hid hnv
  clear hnv
  generalize hlu : (toL (x * s)).length + 1 = lu at *
  generalize hnn : (toL y).length = n at *
  have hln : n < lu := by omega
  have hlu2 : lu ≤ 40000 := by omega
  have HLU := Lib.hid hlu
  have HNN := Lib.hid hnn
  clear hlu hnn hlen0 hyx hm1 hlen1
  have hmk := fun W => run_makeN (P := Tryz.prog) Tryz.underlying158 hi hz0 hz1 hz2 (n := lu - n) (by omega) (C := (lu : Int) - (n : Int)) (by omega) W
  have hnle2 : ¬ (lu : Int) ≤ ((toL x).length : Int) := by omega
  have d0 := c0.cell
  have d1 := c1.cell
  have TK5 : True := trivial
  have hg5a : g5 < W6.heap.size := c0.lt
  have hg5b : g5 + 1 < W6.heap.size := c1.lt
  gi_wp2
  gi_loopw [52] (fun _ wr => wr = W6) (fun _ _ => 0)
  case atStart => rfl
  case round =>
    obtain rfl := hrel
    gi_wp2_with (clear TK5; refine ⟨trivial, ?_⟩; gi_at_call 192; refine (backward_in Fence.wide 2 trivial rfl _ _ _ _).mono ?_; rintro e w' ⟨rfl, rfl⟩)
    have q0 := ((((c0).alloc (.cells #[.int .i64 (n : Int)] 3)).alloc (.cells (madeCells #[.int .u64 0] (lu - n)) 201)).alloc (.cells #[.slice (some ⟨wr.heap.size + 1, 0, none⟩) (lu - n) (lu - n)] 158)).alloc (.cells #[.slice (some ⟨wr.heap.size + 1, 0, none⟩) (lu - n) (lu - n)] 158)
    have q1 := ((((c1).alloc (.cells #[.int .i64 (n : Int)] 3)).alloc (.cells (madeCells #[.int .u64 0] (lu - n)) 201)).alloc (.cells #[.slice (some ⟨wr.heap.size + 1, 0, none⟩) (lu - n) (lu - n)] 158)).alloc (.cells #[.slice (some ⟨wr.heap.size + 1, 0, none⟩) (lu - n) (lu - n)] 158)
    have q2 := ((((k0).alloc (.cells #[.int .i64 (n : Int)] 3)).alloc (.cells (madeCells #[.int .u64 0] (lu - n)) 201)).alloc (.cells #[.slice (some ⟨wr.heap.size + 1, 0, none⟩) (lu - n) (lu - n)] 158)).alloc (.cells #[.slice (some ⟨wr.heap.size + 1, 0, none⟩) (lu - n) (lu - n)] 158)
    have q3 := ((((k1).alloc (.cells #[.int .i64 (n : Int)] 3)).alloc (.cells (madeCells #[.int .u64 0] (lu - n)) 201)).alloc (.cells #[.slice (some ⟨wr.heap.size + 1, 0, none⟩) (lu - n) (lu - n)] 158)).alloc (.cells #[.slice (some ⟨wr.heap.size + 1, 0, none⟩) (lu - n) (lu - n)] 158)
    have q4 := ((((k2).alloc (.cells #[.int .i64 (n : Int)] 3)).alloc (.cells (madeCells #[.int .u64 0] (lu - n)) 201)).alloc (.cells #[.slice (some ⟨wr.heap.size + 1, 0, none⟩) (lu - n) (lu - n)] 158)).alloc (.cells #[.slice (some ⟨wr.heap.size + 1, 0, none⟩) (lu - n) (lu - n)] 158)
    have q5 : Boxed ((((wr.alloc (.cells #[.int .i64 (n : Int)] 3)).alloc (.cells (madeCells #[.int .u64 0] (lu - n)) 201)).alloc (.cells #[.slice (some ⟨wr.heap.size + 1, 0, none⟩) (lu - n) (lu - n)] 158)).alloc (.cells #[.slice (some ⟨wr.heap.size + 1, 0, none⟩) (lu - n) (lu - n)] 158)) wr.heap.size 3 (.int .i64 (n : Int)) := (((Boxed.new wr _ _).alloc (.cells (madeCells #[.int .u64 0] (lu - n)) 201)).alloc (.cells #[.slice (some ⟨wr.heap.size + 1, 0, none⟩) (lu - n) (lu - n)] 158)).alloc (.cells #[.slice (some ⟨wr.heap.size + 1, 0, none⟩) (lu - n) (lu - n)] 158)
    have q6 : Blk ((((wr.alloc (.cells #[.int .i64 (n : Int)] 3)).alloc (.cells (madeCells #[.int .u64 0] (lu - n)) 201)).alloc (.cells #[.slice (some ⟨wr.heap.size + 1, 0, none⟩) (lu - n) (lu - n)] 158)).alloc (.cells #[.slice (some ⟨wr.heap.size + 1, 0, none⟩) (lu - n) (lu - n)] 158)) (wr.heap.size + 1) 201 (U64 (List.replicate (lu - n) 0)).toArray := by
      rw [← U64_zeros]
      have := ((Blk.new (wr.alloc (.cells #[.int .i64 (n : Int)] 3)) 201 (madeCells #[.int .u64 0] (lu - n))).alloc (.cells #[.slice (some ⟨wr.heap.size + 1, 0, none⟩) (lu - n) (lu - n)] 158)).alloc (.cells #[.slice (some ⟨wr.heap.size + 1, 0, none⟩) (lu - n) (lu - n)] 158)
      rwa [World.size_alloc] at this
    have q7 : Boxed ((((wr.alloc (.cells #[.int .i64 (n : Int)] 3)).alloc (.cells (madeCells #[.int .u64 0] (lu - n)) 201)).alloc (.cells #[.slice (some ⟨wr.heap.size + 1, 0, none⟩) (lu - n) (lu - n)] 158)).alloc (.cells #[.slice (some ⟨wr.heap.size + 1, 0, none⟩) (lu - n) (lu - n)] 158)) (wr.heap.size + 1 + 1) 158 (.slice (some ⟨wr.heap.size + 1, 0, none⟩) (lu - n) (lu - n)) := by
      have := (Boxed.new ((wr.alloc (.cells #[.int .i64 (n : Int)] 3)).alloc (.cells (madeCells #[.int .u64 0] (lu - n)) 201)) 158 (.slice (some ⟨wr.heap.size + 1, 0, none⟩) (lu - n) (lu - n))).alloc (.cells #[.slice (some ⟨wr.heap.size + 1, 0, none⟩) (lu - n) (lu - n)] 158)
      simpa only [World.size_alloc] using this
    have q8 : Boxed ((((wr.alloc (.cells #[.int .i64 (n : Int)] 3)).alloc (.cells (madeCells #[.int .u64 0] (lu - n)) 201)).alloc (.cells #[.slice (some ⟨wr.heap.size + 1, 0, none⟩) (lu - n) (lu - n)] 158)).alloc (.cells #[.slice (some ⟨wr.heap.size + 1, 0, none⟩) (lu - n) (lu - n)] 158)) (wr.heap.size + 1 + 1 + 1) 158 (.slice (some ⟨wr.heap.size + 1, 0, none⟩) (lu - n) (lu - n)) := by
      have := Boxed.new (((wr.alloc (.cells #[.int .i64 (n : Int)] 3)).alloc (.cells (madeCells #[.int .u64 0] (lu - n)) 201)).alloc (.cells #[.slice (some ⟨wr.heap.size + 1, 0, none⟩) (lu - n) (lu - n)] 158)) 158 (.slice (some ⟨wr.heap.size + 1, 0, none⟩) (lu - n) (lu - n))
      simpa only [World.size_alloc] using this
    have hwr : w.heap.size ≤ wr.heap.size := k3.size
    have q9 : Below w.heap.size w ((((wr.alloc (.cells #[.int .i64 (n : Int)] 3)).alloc (.cells (madeCells #[.int .u64 0] (lu - n)) 201)).alloc (.cells #[.slice (some ⟨wr.heap.size + 1, 0, none⟩) (lu - n) (lu - n)] 158)).alloc (.cells #[.slice (some ⟨wr.heap.size + 1, 0, none⟩) (lu - n) (lu - n)] 158)) := (((k3.alloc hwr _).alloc (by simp; omega) _).alloc (by simp; omega) _).alloc (by simp; omega) _
    have hsz7 : ((((wr.alloc (.cells #[.int .i64 (n : Int)] 3)).alloc (.cells (madeCells #[.int .u64 0] (lu - n)) 201)).alloc (.cells #[.slice (some ⟨wr.heap.size + 1, 0, none⟩) (lu - n) (lu - n)] 158)).alloc (.cells #[.slice (some ⟨wr.heap.size + 1, 0, none⟩) (lu - n) (lu - n)] 158)).heap.size = wr.heap.size + 1 + 1 + 1 + 1 := by simp
    clear hmk c0 c1 k0 k1 k2 k3 d0 d1
    generalize ((((wr.alloc (.cells #[.int .i64 (n : Int)] 3)).alloc (.cells (madeCells #[.int .u64 0] (lu - n)) 201)).alloc (.cells #[.slice (some ⟨wr.heap.size + 1, 0, none⟩) (lu - n) (lu - n)] 158)).alloc (.cells #[.slice (some ⟨wr.heap.size + 1, 0, none⟩) (lu - n) (lu - n)] 158)) = W7 at *
    generalize wr.heap.size = h at *
    have hlenO : (toL (x * s) ++ [0]).length = lu := by rw [HLN.out]
    have hlenV : (toL (y * s)).length = n := HS3.out
    have hVn : 2 ≤ n := hl2
    have hys0 : 0 < y * s := Nat.mul_pos hy0 s0
    have htopV := (top_bounds hys0).1
    rw [hlenV] at htopV
    have hstart : LongInv (toL (x * s) ++ [0]) (toL (y * s)) n (lu - n) (toL (x * s) ++ [0]) (List.replicate (lu - n) 0) := by
      refine LongInv.start ((sm_toL _).snoc B_pos) (by rw [hlenO]; omega) ?_
      have hlx1 : (toL (x * s)).length = lu - 1 := by have := HLU.out; omega
      rw [List.drop_append_of_le_length (by omega), val_snoc, Nat.mul_zero, Nat.add_zero]
      have h1 := val_lt ((sm_toL (x * s)).drop (lu - n))
      rw [List.length_drop, hlx1, show lu - 1 - (lu - n) = n - 1 by omega] at h1
      have h2 := toL_ge (n := y * s) (by omega)
      rw [hlenV] at h2
      rw [val_toL]
      omega
    refine wpIn_range_ord rfl h1 (gf := 209) (lb := #[.pointer (some ⟨h + 1 + 1 + 1, 0, none⟩)]) rfl trivial eg_back
      (back_seq Fence.wide 2 trivial rfl (by omega) (fun _ _ => True) (h + 1 + 1 + 1) (some ⟨h + 1, 0, none⟩) (lu - n) (lu - n) (by omega)) (fun _ => rfl)
      (fun pre W => ∃ (U Q : List Nat), LongInv (toL (x * s) ++ [0]) (toL (y * s)) n ((lu - n) - pre.length) U Q ∧ pre.length ≤ lu - n ∧
        Boxed W g5 158 (.slice (some ⟨gu, 0, none⟩) lu cu) ∧ Boxed W (g5 + 1) 158 (.slice (some ⟨gv, 0, none⟩) n cv) ∧ Boxed W h 3 (.int .i64 (n : Int)) ∧
        Boxed W (h + 1 + 1) 158 (.slice (some ⟨h + 1, 0, none⟩) (lu - n) (lu - n)) ∧ Boxed W (h + 1 + 1 + 1) 158 (.slice (some ⟨h + 1, 0, none⟩) (lu - n) (lu - n)) ∧
        Blk W gu 201 (U64 U ++ ru).toArray ∧ Blk W gv 201 (U64 (toL (y * s)) ++ rv).toArray ∧ Blk W gs 201 (U64 [s]).toArray ∧ Blk W (h + 1) 201 (U64 Q).toArray ∧ Below w.heap.size w W)
      (fun _ _ _ => False)
      ?hG ?hI (fun c s W W' row hs _ _ => hs) ⟨_, _, by rw [List.length_nil, Nat.sub_zero]; exact hstart, by simp, q0, q1, q5, q7, q8, q2, q3, q4, q6, q9⟩ ?round ?done ?stop
    case hG =>
      rintro pre W ⟨U, Q, hL, _, _, _, _, _, p8, _, _, _, p6, _⟩
      refine ⟨p8.cell, fun h0 => ?_⟩
      exact ⟨h + 1, 0, rfl, fun i hi => ⟨((Q[i]?.getD 0 : Nat) : Int), by rw [Nat.zero_add]; exact p6.getU (i := i) (by have := hL.lq; rw [hlenO] at this; omega), trivial⟩⟩
    case hI =>
      rintro s W W' row ⟨U, Q, g1, g2, g3, g4, g5', g6, g7, g8, g9, g10, g11, g12⟩ hg hr
      exact ⟨U, Q, g1, g2, bx_own g3 hg hr, bx_own g4 hg hr, bx_own g5' hg hr, bx_own g6 hg hr, bx_own g7 hg hr, g8.own_ hg hr, g9.own_ hg hr, g10.own_ hg hr, g11.own_ hg hr, below_own_ g12 (Nat.le_refl _) (by omega) hg hr⟩
    case round =>
      rintro l pre ⟨i, z⟩ W K hi hnx hK
      have HNX := Lib.hid hnx
      clear hnx q0 q1 q2 q3 q4 q5 q6 q7 q8 q9 hstart
      gi_wp2
      refine hK _ _ (KeepsOthers.refl _) hi ?_
      clear hK hi
      rintro Wb _ ⟨U, Q, hL, hpl, q0, q1, q5, q7, q8, q2, q3, q4, q6, q9⟩
      obtain ⟨m, hm, hcame, hieq, hz⟩ := HNX.out
      dsimp only at hieq hz
      have hml := hcame.length
      have hil : i < lu - n := by omega
      have hLi : LongInv (toL (x * s) ++ [0]) (toL (y * s)) n (i + 1) U Q := by
        have e : lu - n - pre.length = i + 1 := by omega
        rw [e] at hL; exact hL
      have hlU : U.length = lu := by rw [hLi.lu, hlenO]
      have hlQ : Q.length = lu - n := by have := hLi.lq; rw [hlenO] at this; omega
      obtain ⟨hD2, hwin, _⟩ := hLi.window hVn (sm_toL _) hlenV htopV (by rw [hlQ]; exact hil)
      have hsplit : U64 U ++ ru = U64 (U.take i) ++ (U64 ((U.drop i).take (n + 1)) ++ (U64 (U.drop (i + (n + 1))) ++ ru)) := by
        rw [← List.append_assoc, ← List.append_assoc]
        congr 1
        simp only [U64, ← List.map_append]
        congr 1
        rw [show U.drop (i + (n + 1)) = (U.drop i).drop (n + 1) by rw [List.drop_drop], List.append_assoc, List.take_append_drop, List.take_append_drop]
      have HEST := Lib.hid (fun (W : World) (c2 : Nat) (hW : Blk W gu 201 (U64 U ++ ru).toArray) (hV : Blk W gv 201 (U64 (toL (y * s)) ++ rv).toArray) =>
        est_any (U64 (U.take i)) (U64 (U.drop (i + (n + 1))) ++ ru) ((U.drop i).take (n + 1)) (toL (y * s)) n gu i c2 cv (some ⟨gv, 0, none⟩) W hD2 (by rw [U64_length, List.length_take]; omega) (by omega) (by rw [← hsplit]; exact hW)
          (by have hr := (hV.row).take (toL (y * s)).length; rw [List.take_left' (by rw [U64_length])] at hr; exact hr) (fun a e => by cases e; dsimp only; omega))
      have HLI := Lib.hid hLi
      have HLQ := Lib.hid hlQ
      have HPL := Lib.hid (show pre.length = lu - n - 1 - i by omega)
      have d0 := q0.cell
      have d1 := q1.cell
      have d5 := q5.cell
      have d7 := q7.cell
      have hgun : g5 ≠ gu := by omega
      have hi0 : (0 : Int) ≤ (i : Int) := by omega
      have hi1 : (i : Int) < ((lu - n : Nat) : Int) := by omega
      have hi2 : (i : Int) + (n : Int) + 1 ≤ (lu : Int) := by omega
      have hmx : Tryz.prog.follows .mixedOrders = true := by kernel_rfl
      have x0' : ∀ X : SameAt Wb (fun k => k ≠ gu ∧ k ≠ h + 1), X.W.cell? ⟨g5, 0, none⟩ = _ := fun X => X.cell (by constructor <;> omega) d0
      have x1' : ∀ X : SameAt Wb (fun k => k ≠ gu ∧ k ≠ h + 1), X.W.cell? ⟨g5 + 1, 0, none⟩ = _ := fun X => X.cell (by constructor <;> omega) d1
      have x5' : ∀ X : SameAt Wb (fun k => k ≠ gu ∧ k ≠ h + 1), X.W.cell? ⟨h, 0, none⟩ = _ := fun X => X.cell (by constructor <;> omega) d5
      have x7' : ∀ X : SameAt Wb (fun k => k ≠ gu ∧ k ≠ h + 1), X.W.cell? ⟨h + 1 + 1, 0, none⟩ = _ := fun X => X.cell (by constructor <;> omega) d7
      clear hieq hcame hml hL hLi hlU hlQ hD2 hwin hsplit hm hpl hz
      gi_wp2
      refine wpIn_stage (IsSame Wb (fun k => k ≠ gu ∧ k ≠ h + 1)) [0, 1, 2, 3, 4, 5, 6, 7, 8, 9, 11] [] hmx (by kernel_rfl) (isSame_of fun _ _ => rfl) ?_
      change wpStage _ _ _ _ _ _ _ _ (3 + 10) _ _ _
      refine stage_reads [0, 1, 2, 3, 4, 5, 6, 7, 8, 9] 3 _ _ (by kernel_rfl) ?_
      change wpQuietIn _ _ _ _ (fun W => ∃ x : SameAt Wb (fun k => k ≠ gu ∧ k ≠ h + 1), W = x.W) _ _ _
      simp only [pick_cons, pick_nil, List.getElem?_cons_zero, List.getElem?_cons_succ, Option.elim_some]
      repeat (gi_big_quiet_step (fail))
      refine wpQuietIn_nil ?_
      refine stage_one 10 (by kernel_rfl) rfl ?_
      gi_wp2
      refine ⟨trivial, ?_⟩
      rw [show i + n + 1 - i = n + 1 by omega]
      refine (CallsIn.inRound l (callsIn_wide.2 (HEST.out Wb.drew _ q2 q3))).mono ?_
      rintro e W1 ⟨Wd, rfl, hsw, hlw, hvw, hbk, hon⟩
      have HON := Lib.hid (show Only gu Wb W1 from ⟨⟨hon.1.os, hon.1.tape, hon.1.output, hon.1.size, hon.1.block⟩, hon.2.1, hon.2.2⟩)
      have HBK := Lib.hid hbk
      have HW := Lib.hid (And.intro hsw (And.intro hlw hvw))
      have r6 : Blk W1 (h + 1) 201 (U64 Q).toArray := (hon.2.2 (h + 1) (by omega)).trans q6
      have r6c := r6.getU (i := i) (by rw [HLQ.out]; exact hil)
      have r6f := r6.frozen i
      clear hbk hon hsw hlw hvw x0' x1' x5' x7' d0 d1 d5 d7
      gi_wp2
      refine stage_post (isSame_of fun k hk => HON.out.2.2 k hk.1) ?_
      change wpStage _ _ _ _ _ _ _ _ (1 + 1) _ _ _
      refine stage_reads [11] 1 _ _ (by kernel_rfl) ?_
      change wpQuietIn _ _ _ _ (fun W => ∃ x : SameAt Wb (fun k => k ≠ gu ∧ k ≠ h + 1), W = x.W) _ _ _
      simp only [pick_cons, pick_nil, List.getElem?_cons_zero, List.getElem?_cons_succ, Option.elim_some]
      repeat (gi_big_quiet_step (fail))
      refine wpQuietIn_nil ?_
      refine stage_one 12 (by kernel_rfl) rfl ?_
      gi_wp2
      refine stage_post (isSame_of fun k hk => (Below.heap_setCell _ _ _ k hk.2).trans (HON.out.2.2 k hk.1)) ?_
      refine stage_done (by kernel_rfl) ?_
      gi_wp2
      rw [← Int.natCast_ediv]
      obtain ⟨qv, hqv⟩ : ∃ qv, qv = val ((U.drop i).take (n + 1)) / val (toL (y * s)) := ⟨_, rfl⟩
      rw [← hqv]
      have hstep := HLI.out.step hVn (sm_toL _) hlenV htopV (by rw [HLQ.out]; exact hil) HW.out.1 HW.out.2.1 hqv HW.out.2.2
      have hkeep : KeepsOthers Wb W1 := ⟨Nat.le_of_eq HON.out.2.1.symm, fun k ob hk ho => by
        have hne : k ≠ gu := by
          intro e
          rw [e] at hk
          have h2 := q2
          unfold Blk at h2
          rw [h2] at hk
          cases hk
          exact absurd ho (by simp [Obj.isCells])
        exact (HON.out.2.2 k hne).trans hk⟩
      refine ⟨hkeep.trans (KeepsOthers.setCell _ _ _), U.take i ++ (Wd ++ U.drop (i + (n + 1))), Q.set i qv, ?_, ?_, ?_, ?_, ?_, ?_, ?_, ?_, ?_, ?_, r6.setU i qv, ?_⟩
      · rw [List.length_append, List.length_singleton, show lu - n - (pre.length + 1) = i by have := HPL.out; omega]; exact hstep
      · rw [List.length_append, List.length_singleton]; have := HPL.out; omega
      · exact bx_far ((HON.out.2.2 g5 hgun).trans q0) (by intro e; dsimp only at e; omega) _
      · exact bx_far ((HON.out.2.2 (g5 + 1) (by omega)).trans q1) (by intro e; dsimp only at e; omega) _
      · exact bx_far ((HON.out.2.2 h (by omega)).trans q5) (by intro e; dsimp only at e; omega) _
      · exact bx_far ((HON.out.2.2 (h + 1 + 1) (by omega)).trans q7) (by intro e; dsimp only at e; omega) _
      · exact bx_far ((HON.out.2.2 (h + 1 + 1 + 1) (by omega)).trans q8) (by intro e; dsimp only at e; omega) _
      · have h2 := HBK.out.far (p := ⟨h + 1, i, none⟩) (by intro e; dsimp only at e; omega) (.int .u64 (qv : Int))
        rw [show U64 (U.take i ++ (Wd ++ U.drop (i + (n + 1)))) ++ ru = U64 (U.take i) ++ (U64 Wd ++ (U64 (U.drop (i + (n + 1))) ++ ru)) by simp [U64]]
        exact h2
      · exact Blk.far ((HON.out.2.2 gv (by omega)).trans q3) (by intro e; dsimp only at e; omega) _
      · exact Blk.far ((HON.out.2.2 gs (by omega)).trans q4) (by intro e; dsimp only at e; omega) _
      · exact (q9.trans (HON.out.1.mono hwgu)).setCell (p := ⟨h + 1, i, none⟩) (by dsimp only; omega) _
    case done =>
      rintro D ys W hD hS ⟨U, Q, hL, hpl, q0, q1, q5, q7, q8, q2, q3, q4, q6, q9⟩ hK
      have hlen := hS.length
      rw [hlen, Nat.sub_self] at hL
      obtain ⟨e1, e2⟩ := hL.done
      have hrest := hL.rest (sm_toL _) hlenV
      have hOval : val (toL (x * s) ++ [0]) = x * s := by rw [val_snoc, val_toL]; simp
      rw [hOval, val_toL] at e1 e2
      rw [div_scaled s0] at e1
      rw [mod_scaled] at e2
      rw [e2] at hrest
      have hlU : U.length = lu := by rw [hL.lu, hlenO]
      have hlQ : Q.length = lu - n := by have := hL.lq; rw [hlenO] at this; omega
      have HE1 := Lib.hid e1
      have HRS := Lib.hid hrest
      have HLQ := Lib.hid hlQ
      have hsU := hL.su.take n
      have hsQ := hL.sq
      have hrowU : Row W (some ⟨gu, 0, none⟩) (U64 (U.take n)) := by
        have hr := (q2.row).take n
        rw [List.take_append_of_le_length (by rw [U64_length]; omega), ← U64_take] at hr
        exact hr
      have hlUn : (U.take n).length = n := by rw [List.length_take]; omega
      have HLU2 := Lib.hid hlUn
      have d0 := q0.cell
      have d5 := q5.cell
      have d7 := q7.cell
      have ds := q4.getU (i := 0) (Nat.zero_lt_one)
      have hmx : Tryz.prog.follows .mixedOrders = true := by kernel_rfl
      have hg0 := q0.lt
      have hq6l := q6.lt
      have hgsW := q4.lt
      have hgu7 := q2.lt
      have hh := q5.lt
      have hh2 := q7.lt
      clear hL hS e1 e2 hrest hOval hlU hlQ hlUn
      gi_wp2
      have x0' : ∀ X : SameAt W (fun k => k < W.heap.size), X.W.cell? ⟨g5, 0, none⟩ = _ := fun X => X.cell hg0 d0
      have x5' : ∀ X : SameAt W (fun k => k < W.heap.size), X.W.cell? ⟨h, 0, none⟩ = _ := fun X => X.cell hh d5
      have xs' : ∀ X : SameAt W (fun k => k < W.heap.size), X.W.cell? ⟨gs, 0, none⟩ = _ := fun X => X.cell hgsW ds
      refine wpIn_stage (IsSame W (fun k => k < W.heap.size)) [0, 1, 2, 4, 5, 6, 8, 9, 10, 11, 12] [] hmx (by kernel_rfl) (isSame_of fun _ _ => rfl) ?_
      change wpStage _ _ _ _ _ _ _ _ (7 + 6) _ _ _
      refine stage_reads [0, 1, 2, 4, 5, 6] 7 _ _ (by kernel_rfl) ?_
      change wpQuietIn _ _ _ _ (fun W' => ∃ x : SameAt W (fun k => k < W.heap.size), W' = x.W) _ _ _
      simp only [pick_cons, pick_nil, List.getElem?_cons_zero, List.getElem?_cons_succ, Option.elim_some]
      repeat (gi_big_quiet_step (fail))
      refine wpQuietIn_nil ?_
      refine stage_one 3 (by kernel_rfl) rfl ?_
      gi_wp2
      refine ⟨trivial, ?_⟩
      refine (callsIn_wide.2 (trim_any (U.take n) _ n cu W.drew HLU2.out.symm hsU (by rw [HLU2.out]; omega) hcum hrowU)).mono ?_
      rintro e w' ⟨rfl, rfl⟩
      rw [HRS.out]
      gi_wp2
      refine stage_post (isSame_of fun _ _ => rfl) ?_
      refine stage_one 7 (by kernel_rfl) rfl ?_
      gi_wp2
      refine ⟨trivial, ?_⟩
      refine (callsIn_wide.2 (small_any (x % y * s) s _ W.drew (isNat_trim hsU hrowU (by rw [HLU2.out]; omega) hcum HRS.out) ?hlr s0 s1)).mono ?_
      case hlr =>
        rw [← HRS.out]
        have := toL_len_le_of hsU
        rw [HLU2.out] at this
        omega
      rintro e W2 ⟨vr, rfl, hr, hb⟩
      have hb2 : Below W.heap.size W W2 := ⟨hb.os, hb.tape, hb.output, hb.size, hb.block⟩
      have HB2 := Lib.hid hb2
      have HR := Lib.hid hr
      have HWW := Lib.hid (show Below w.heap.size w W2 from q9.trans (hb2.mono q9.size))
      have d7' := (hb2.cell (p := ⟨h + 1 + 1, 0, none⟩) hh2).trans d7
      have hh2' : h + 1 + 1 < W2.heap.size := Nat.lt_of_lt_of_le hh2 hb2.size
      have r6 : Blk W2 (h + 1) 201 (U64 Q).toArray := q6.below hb2 hq6l
      have hK2 : W2.heap[D]? = some (.deferred (some [])) := (hb2.block D (Array.getElem?_eq_some_iff.1 hK).1).trans hK
      have HK2 := Lib.hid hK2
      clear hb hb2 hr hK2 hK
      gi_wp2
      refine stage_post (isSame_below HB2.out (fun _ h => h)) ?_
      change wpStage _ _ _ _ _ _ _ _ (0 + 5) _ _ _
      refine stage_reads [8, 9, 10, 11, 12] 0 _ _ (by kernel_rfl) ?_
      change wpQuietIn _ _ _ _ (fun W' => ∃ x : SameAt W (fun k => k < W.heap.size), W' = x.W) _ _ _
      simp only [pick_cons, pick_nil, List.getElem?_cons_zero, List.getElem?_cons_succ, Option.elim_some]
      repeat (gi_big_quiet_step (fail))
      refine wpQuietIn_nil ?_
      refine stage_done (by kernel_rfl) ?_
      clear x0' x5' xs' d7
      have TKT : True := trivial
      gi_wp2_with (clear TKT; refine ⟨trivial, ?_⟩; gi_at_call 190; refine (callsIn_wide.2 (trim_any Q _ _ _ W2 HLQ.out.symm hsQ (Nat.le_of_eq HLQ.out) (by unfold maxLen; omega) r6.row)).mono ?_; rintro e w' ⟨rfl, rfl⟩)
      refine ⟨by simp, .inl ⟨_, _, rfl, run_takeDeferred HK2.out, ?_⟩⟩
      refine ⟨_, results_tmp2 rfl _ _ _, ⟨.slice (some ⟨h + 1, 0, none⟩) (toL (val Q)).length (lu - n), vr, rfl, ?_, ?_, ?_⟩⟩
      · have hb2 := r6.own_ (B := 0) (grownBy_putObj' _ D (.deferred none)) (fun r e => by cases e; exact ⟨Nat.zero_le _, _, HK2.out, rfl⟩)
        have hfin := isNat_trim hsQ hb2.row (c := lu - n) (Nat.le_of_eq HLQ.out) (by unfold maxLen; omega) HE1.out
        rw [← HE1.out] at hfin ⊢
        exact hfin
      · have h2 := HR.out
        rw [Nat.mul_div_cancel _ s0] at h2
        exact isNat_put h2 HK2.out rfl
      · exact HWW.out.trans (belowK_b (w := w) (Nat.le_refl _) _ D _ _ (by omega) HK2.out rfl rfl)
    case stop =>
      rintro D c pre x' W hD _ h _
      exact h.elim

theorem divmod_any (x y : Nat) (vx vy : Value) (w : World) (hx : IsNat w vx x) (hy : IsNat w vy y) (hlx : (toL x).length ≤ 30000) (hy0 : 0 < y) :
    Calls Tryz.prog 195 #[vx, vy] w fun e w' => ∃ vq vr, e = .returned (.tuple #[vq, vr]) ∧ IsNat w' vq (x / y) ∧ IsNat w' vr (x % y) ∧ Below w.heap.size w w' := by
  by_cases hlt : x < y
  · exact divmod_less x y vx vy w hx hy (by omega) hlt
  · by_cases hl : (toL y).length = 1
    · exact divmod_one x y vx vy w hx hy (by omega) (by omega) hl
    · have := toL_len_pos.2 (show y ≠ 0 by omega)
      exact divmod_long x y vx vy w hx hy hlx (by omega) (by omega)
end Go.Proofs.YtbfhonhjejeaiaaGreatDoor
namespace Go.Proofs.YtbfhonhjejeaiaaGreatDoor
open Go.RowKit Go.Shelf
open Lim

theorem gcd_step (a b : Nat) : b.gcd (a % b) = a.gcd b := by
  rw [Nat.gcd_comm b, ← Nat.gcd_rec, Nat.gcd_comm]

set_option maxRecDepth 100000 in
set_option maxHeartbeats 1000000 in
theorem gcd_any (x y : Nat) (vx vy : Value) (w : World) (hx : IsNat w vx x) (hy : IsNat w vy y) (hlx : (toL x).length ≤ 30000) (hly : (toL y).length ≤ 30000) :
    Calls Tryz.prog 173 #[vx, vy] w fun e w' => ∃ v, e = .returned v ∧ IsNat w' v (x.gcd y) ∧ Below w.heap.size w w' := by
  have HX := Lib.hid hx
  have HY := Lib.hid hy
  obtain ⟨A, c, rfl, hc, hcm, _⟩ := hx
  obtain ⟨A', c', rfl, hc', hcm', _⟩ := hy
  go_enter Tryz.func173, Tryz.ntmps173
  go_wp2
  go_loopg [0, 1] y (fun k s0 s1 wr => ∃ a b : Nat, IsNat wr s0 a ∧ IsNat wr s1 b ∧ a.gcd b = x.gcd y ∧ (toL a).length ≤ 30000 ∧ (toL b).length ≤ 30000 ∧ b ≤ k ∧ Below w.heap.size w wr)
  case atStart => exact ⟨x, y, HX.out, HY.out, rfl, hlx, hly, Nat.le_refl _, Below.refl _ _⟩
  case round =>
    obtain ⟨a, b, ha, hb, hg, hla, hlb, hbk, hB⟩ := hrel
    have HA := Lib.hid ha
    have HB := Lib.hid hb
    have HG := Lib.hid hg
    have HBW := Lib.hid hB
    obtain ⟨A1, c1, rfl, hc1, hcm1, _⟩ := ha
    obtain ⟨A2, c2, rfl, hc2, hcm2, _⟩ := hb
    clear hg hB
    by_cases hb0 : b = 0
    · subst hb0
      have hl0 : (toL 0).length = 0 := by rw [toL_zero]; rfl
      rw [hl0]
      clear hl0
      go_wp2
      go_ret
      refine ⟨_, rfl, ?_, HBW.out⟩
      have := HG.out
      rw [Nat.gcd_zero_right] at this
      rw [← this]
      exact HA.out
    · have hpos : 0 < b := by omega
      have hlp : (0 : Int) < ((toL b).length : Int) := by have := toL_len_pos.2 hb0; omega
      have TK1 : True := trivial
      clear hb0
      go_wp2_with (clear TK1; go_at_call 195; refine (divmod_any a b _ _ _ HA.out HB.out hla hpos).mono ?_; rintro e w1 ⟨vq, vr, rfl, hq, hr, hb1⟩; have HR := Lib.hid hr; have HB1 := Lib.hid hb1; clear hq hr hb1)
      have hm := Nat.mod_lt a hpos
      go_roundg (a % b)
      case rel => exact ⟨b, a % b, HB.out.below HB1.out, HR.out, (gcd_step a b).trans HG.out, hlb, Nat.le_trans (toL_len_mono (Nat.le_of_lt hm)) hlb, Nat.le_refl _, HBW.out.trans (HB1.out.mono HBW.out.size)⟩
      case measure => omega

theorem zero_any (x : Nat) (vx : Value) (w : World) (hx : IsNat w vx x) :
    Calls Tryz.prog 174 #[vx] w fun e w' => e = .returned (.bool (decide (x = 0))) ∧ w' = w := by
  obtain ⟨A, c, rfl, hc, hcm, _⟩ := hx
  have hd : (((toL x).length : Int) == 0) = decide (x = 0) := by
    by_cases h : x = 0
    · subst h; rw [toL_zero]; rfl
    · have := toL_len_pos.2 h
      rw [decide_eq_false h, beq_eq_false_iff_ne]; omega
  go_enter Tryz.func174, Tryz.ntmps174
  go_wp2
  go_ret
  exact ⟨rfl, rfl⟩
theorem one_any (x : Nat) (vx : Value) (w : World) (hx : IsNat w vx x) :
    Calls Tryz.prog 168 #[vx] w fun e w' => e = .returned (.bool (decide (x = 1))) ∧ w' = w := by
  obtain ⟨A, c, rfl, hc, hcm, hr⟩ := hx
  have e1 : toL 1 = [1] := by rw [toL_pos (by omega)]; simp [B_val, toL_zero]
  by_cases hl : (toL x).length = 1
  · obtain ⟨b, o, rfl, hb, hcell⟩ := hr (by rw [U64_length]; omega)
    have hc0 := hcell 0 _ (U64_get (by omega))
    rw [Nat.add_zero] at hc0
    obtain ⟨z, hz⟩ := List.length_eq_one_iff.1 hl
    have hv := val_toL x
    rw [hz] at hc0 hv
    simp only [List.getElem?_cons_zero, Option.getD_some] at hc0
    simp only [val, Nat.mul_zero, Nat.add_zero] at hv
    subst hv
    rw [hl]
    clear hcell hr hl hc hz
    by_cases h1 : z = 1
    · subst h1
      go_enter Tryz.func168, Tryz.ntmps168
      go_wp2
      go_ret
      exact ⟨rfl, rfl⟩
    · have hd : ((z : Int) == 1) = false := by rw [beq_eq_false_iff_ne]; omega
      have hd2 : decide (z = 1) = false := decide_eq_false h1
      rw [hd2]
      clear h1 hd2
      go_enter Tryz.func168, Tryz.ntmps168
      go_wp2
      go_ret
      exact ⟨rfl, rfl⟩
  · have hd : (((toL x).length : Int) == 1) = false := by rw [beq_eq_false_iff_ne]; omega
    have hd2 : decide (x = 1) = false := decide_eq_false (fun e => hl (by rw [e, e1]; rfl))
    rw [hd2]
    clear hd2 hl e1
    go_enter Tryz.func168, Tryz.ntmps168
    go_wp2
    go_ret
    exact ⟨rfl, rfl⟩
end Go.Proofs.YtbfhonhjejeaiaaGreatDoor
namespace Go.Proofs.YtbfhonhjejeaiaaGreatDoor.Lim
open Go.Lib

/-- The number of a sign, a numerator and a denominator. -/
def mkQ (m : Bool) (n d : Nat) : Rat := mkRat (if m then -(n : Int) else (n : Int)) d
/-- Whether a number is negative. -/
def ng (q : Rat) : Bool := decide (q.num < 0)
def nm (q : Rat) : Nat := q.num.natAbs

theorem num_of (q : Rat) : q.num = if ng q then -(nm q : Int) else (nm q : Int) := by
  unfold ng nm
  by_cases h : q.num < 0
  · simp [h]; omega
  · simp [h]; omega
theorem den_pos (q : Rat) : 0 < q.den := Nat.pos_of_ne_zero q.den_nz
theorem ng_nm {q : Rat} (h : ng q = true) : nm q ≠ 0 := by
  unfold ng at h; unfold nm
  have := of_decide_eq_true h
  omega
theorem coprime (q : Rat) : (nm q).gcd q.den = 1 := q.reduced
theorem mkQ_self (q : Rat) : mkQ (ng q) (nm q) q.den = q := by
  unfold mkQ
  rw [← num_of, Rat.mkRat_self]
theorem nm_zero {q : Rat} : nm q = 0 ↔ q = 0 := by
  unfold nm
  rw [Int.natAbs_eq_zero, Rat.num_eq_zero]
section
variable {m : Bool} {n d : Nat}
theorem mkQ_den (hd : d ≠ 0) : (mkQ m n d).den = d / n.gcd d := by
  unfold mkQ
  rw [Rat.den_mkRat, if_neg hd]
  cases m <;> simp [Nat.gcd_comm]
theorem mkQ_nm (hd : d ≠ 0) : nm (mkQ m n d) = n / n.gcd d := by
  unfold mkQ nm
  rw [Rat.num_mkRat, if_neg hd]
  cases m with
  | false =>
    simp only [Bool.false_eq_true, if_false, Int.natAbs_natCast]
    rw [← Int.natCast_ediv, Int.natAbs_natCast, Nat.gcd_comm]
  | true =>
    simp only [if_true, Int.natAbs_neg, Int.natAbs_natCast]
    have hdv : ((d.gcd n : Nat) : Int) ∣ (n : Int) := Int.natCast_dvd_natCast.2 (Nat.gcd_dvd_right d n)
    rw [Int.neg_ediv_of_dvd hdv, Int.natAbs_neg, ← Int.natCast_ediv, Int.natAbs_natCast, Nat.gcd_comm]
theorem mkQ_ng (hd : d ≠ 0) : ng (mkQ m n d) = (m && decide (n ≠ 0)) := by
  have h := mkQ_nm (m := m) (n := n) hd
  by_cases h0 : n = 0
  · subst h0
    have : mkQ m 0 d = 0 := by unfold mkQ; cases m <;> simp
    rw [this]
    simp [ng]
  · have hg : 0 < d.gcd n := Nat.gcd_pos_of_pos_left _ (Nat.pos_of_ne_zero hd)
    have hpos : 0 < n / d.gcd n := Nat.div_pos (Nat.le_of_dvd (by omega) (Nat.gcd_dvd_right d n)) hg
    unfold ng mkQ
    rw [Rat.num_mkRat, if_neg hd]
    cases m with
    | false =>
      simp only [Bool.false_eq_true, if_false, Int.natAbs_natCast, Bool.false_and, decide_eq_false_iff_not]
      rw [← Int.natCast_ediv]
      omega
    | true =>
      simp only [if_true, Int.natAbs_neg, Int.natAbs_natCast, Bool.true_and]
      have hdv : ((d.gcd n : Nat) : Int) ∣ (n : Int) := Int.natCast_dvd_natCast.2 (Nat.gcd_dvd_right d n)
      rw [Int.neg_ediv_of_dvd hdv, ← Int.natCast_ediv]
      simp [h0]
      omega
theorem mkQ_zero : mkQ m 0 d = 0 := by unfold mkQ; cases m <;> simp
theorem mkQ_one_den : (mkQ m n 1).den = 1 := by rw [mkQ_den (by omega)]; simp
/-- A fraction without common divisors. -/
theorem mkQ_low (hd : d ≠ 0) (h : n.gcd d = 1) : nm (mkQ m n d) = n ∧ (mkQ m n d).den = d ∧ ng (mkQ m n d) = (m && decide (n ≠ 0)) := by
  refine ⟨?_, ?_, mkQ_ng hd⟩
  · rw [mkQ_nm hd, h, Nat.div_one]
  · rw [mkQ_den hd, h, Nat.div_one]
end

theorem add_same {a b : Rat} (h : ng a = ng b) : a + b = mkQ (ng a) (nm a * b.den + nm b * a.den) (a.den * b.den) := by
  rw [Rat.add_def', num_of a, num_of b, ← h]
  unfold mkQ
  cases ng a <;> simp
  congr 1
  rw [Int.neg_mul, Int.neg_mul]; omega
theorem add_less {a b : Rat} (h : ng a ≠ ng b) (hlt : nm a * b.den < nm b * a.den) : a + b = mkQ (ng b) (nm b * a.den - nm a * b.den) (a.den * b.den) := by
  rw [Rat.add_def', num_of a, num_of b]
  unfold mkQ
  have e : ((nm b * a.den - nm a * b.den : Nat) : Int) = (nm b : Int) * a.den - (nm a : Int) * b.den := by
    rw [Int.natCast_sub (Nat.le_of_lt hlt)]; simp
  rw [e]
  generalize ng a = x at *
  generalize ng b = y at *
  cases x <;> cases y <;> simp at h ⊢ <;> congr 1 <;> rw [Int.neg_mul] <;> omega
theorem add_more {a b : Rat} (h : ng a ≠ ng b) (hlt : ¬ nm a * b.den < nm b * a.den) : a + b = mkQ (ng a) (nm a * b.den - nm b * a.den) (a.den * b.den) := by
  rw [Rat.add_def', num_of a, num_of b]
  unfold mkQ
  have e : ((nm a * b.den - nm b * a.den : Nat) : Int) = (nm a : Int) * b.den - (nm b : Int) * a.den := by
    rw [Int.natCast_sub (Nat.le_of_not_lt hlt)]; simp
  rw [e]
  generalize ng a = x at *
  generalize ng b = y at *
  cases x <;> cases y <;> simp at h ⊢ <;> congr 1 <;> rw [Int.neg_mul] <;> omega
theorem mul_parts (a b : Rat) : a * b = mkQ (ng a != ng b) (nm a * nm b) (a.den * b.den) := by
  rw [Rat.mul_def', num_of a, num_of b]
  unfold mkQ
  cases ng a <;> cases ng b <;> simp [Int.neg_mul, Int.mul_neg]
theorem neg_parts (a : Rat) : ng (-a) = (!ng a && decide (nm a ≠ 0)) ∧ nm (-a) = nm a ∧ (-a).den = a.den := by
  refine ⟨?_, ?_, rfl⟩
  · unfold ng nm
    rw [Rat.neg_num]
    by_cases h : a.num < 0
    · simp [h]; omega
    · by_cases h0 : a.num = 0
      · simp [h0]
      · simp [h, h0]; omega
  · unfold nm; rw [Rat.neg_num]; simp
theorem inv_parts {a : Rat} (h : a ≠ 0) : ng a⁻¹ = ng a ∧ nm a⁻¹ = a.den ∧ (a⁻¹).den = nm a := by
  have hn : a.num ≠ 0 := fun e => h (Rat.num_eq_zero.1 e)
  refine ⟨?_, ?_, ?_⟩
  · unfold ng
    rw [Rat.num_inv]
    have hd := den_pos a
    rcases Int.lt_trichotomy a.num 0 with h1 | h1 | h1
    · rw [Int.sign_eq_neg_one_of_neg h1]; simp [h1]; omega
    · exact absurd h1 hn
    · rw [Int.sign_eq_one_of_pos h1]; simp; omega
  · unfold nm
    rw [Rat.num_inv, Int.natAbs_mul, Int.natAbs_sign_of_ne_zero hn]; simp
  · rw [Rat.den_inv, if_neg hn]; rfl
theorem pow_parts (a : Rat) (n : Nat) : nm (a ^ n) = nm a ^ n ∧ (a ^ n).den = a.den ^ n ∧ ng (a ^ n) = (ng a && decide (n % 2 = 1)) := by
  refine ⟨?_, rfl, ?_⟩
  · unfold nm; rw [Rat.num_pow, Int.natAbs_pow]
  · have key : ∀ (x : Nat), x ≠ 0 → ∀ n : Nat, ((-(x : Int)) ^ n < 0 ↔ n % 2 = 1) := by
      intro x hx n
      rcases Nat.mod_two_eq_zero_or_one n with h | h
      · obtain ⟨k, rfl⟩ : ∃ k, n = 2 * k := ⟨n / 2, by omega⟩
        rw [Int.pow_mul]
        have : (-(x : Int)) ^ 2 = (((x ^ 2 : Nat)) : Int) := by rw [Int.pow_succ, Int.pow_succ]; simp [Nat.pow_succ, Int.neg_mul, Int.mul_neg]
        rw [this, ← Int.natCast_pow]
        omega
      · obtain ⟨k, rfl⟩ : ∃ k, n = 2 * k + 1 := ⟨n / 2, by omega⟩
        rw [Int.pow_succ, Int.pow_mul]
        have : (-(x : Int)) ^ 2 = (((x ^ 2 : Nat)) : Int) := by rw [Int.pow_succ, Int.pow_succ]; simp [Nat.pow_succ, Int.neg_mul, Int.mul_neg]
        rw [this, ← Int.natCast_pow, Int.mul_neg]
        have hp : 0 < (x ^ 2) ^ k * x := Nat.mul_pos (Nat.pow_pos (Nat.pow_pos (Nat.pos_of_ne_zero hx))) (Nat.pos_of_ne_zero hx)
        have : ((((x ^ 2) ^ k : Nat)) : Int) * (x : Int) = (((x ^ 2) ^ k * x : Nat) : Int) := by simp
        rw [this]
        omega
    unfold ng
    rw [Rat.num_pow]
    by_cases h : a.num < 0
    · obtain ⟨x, hx⟩ : ∃ x : Nat, a.num = -(x : Int) := ⟨a.num.natAbs, by omega⟩
      rw [hx]
      have := key x (by omega) n
      simp only [this]
      have h1 : decide (-(x : Int) < 0) = true := by simp; omega
      rw [h1]; simp
    · obtain ⟨x, hx⟩ : ∃ x : Nat, a.num = (x : Int) := ⟨a.num.natAbs, by omega⟩
      rw [hx, ← Int.natCast_pow]
      have h1 : decide ((x : Int) < 0) = false := by simp
      have h2 : decide (((x ^ n : Nat) : Int) < 0) = false := by rw [decide_eq_false_iff_not]; omega
      rw [h1, h2]; rfl

/-! ### texts -/
/-- The text of a number. -/
def ratText (q : Rat) : List UInt8 := (if ng q then [45] else []) ++ decDigits (nm q) ++ (if q.den = 1 then [] else 47 :: decDigits q.den)

theorem not_slash {l : List UInt8} (h : Dg l) : (47 : UInt8) ∉ l := fun hm => by have := isD_iff.1 (h _ hm); simp at this
theorem not_minus {l : List UInt8} (h : Dg l) : (45 : UInt8) ∉ l := fun hm => by have := isD_iff.1 (h _ hm); simp at this

/-- What stands ahead of the first slash, and what behind it. -/
def cutQ (s : List UInt8) : List UInt8 × Option (List UInt8) :=
  if s.contains 47 then (s.takeWhile (· != 47), some ((s.dropWhile (· != 47)).drop 1)) else (s, none)
theorem takeWhile_slash (a r : List UInt8) (h : (47 : UInt8) ∉ a) : (a ++ 47 :: r).takeWhile (· != 47) = a ∧ (a ++ 47 :: r).dropWhile (· != 47) = 47 :: r := by
  induction a with
  | nil => simp
  | cons x a ih =>
    have hx : x ≠ 47 := fun e => h (by simp [e])
    have := ih (fun hm => h (List.mem_cons_of_mem _ hm))
    simp [hx, this]
theorem cutQ_slash {a r : List UInt8} (h : (47 : UInt8) ∉ a) : cutQ (a ++ 47 :: r) = (a, some r) := by
  unfold cutQ
  obtain ⟨h1, h2⟩ := takeWhile_slash a r h
  rw [if_pos (by simp), h1, h2]
  rfl
theorem cutQ_none {s : List UInt8} (h : (47 : UInt8) ∉ s) : cutQ s = (s, none) := by
  unfold cutQ
  rw [if_neg (by simpa using h)]
theorem cutQ_cases (s : List UInt8) : (∃ a r, s = a ++ 47 :: r ∧ (47 : UInt8) ∉ a) ∨ (47 : UInt8) ∉ s := by
  by_cases h : (47 : UInt8) ∈ s
  · left
    induction s with
    | nil => cases h
    | cons x s ih =>
      by_cases hx : x = 47
      · subst hx; exact ⟨[], s, rfl, by simp⟩
      · have hs : (47 : UInt8) ∈ s := by
          rcases List.mem_cons.1 h with e | e
          · exact absurd e.symm hx
          · exact e
        obtain ⟨a, r, e, hn⟩ := ih hs
        exact ⟨x :: a, r, by rw [e]; rfl, by simp [hn]; exact fun e => hx e.symm⟩
  · exact .inr h

/-- An integer's sign and digits. -/
def intP (s : List UInt8) : Bool × List UInt8 := if s.head? = some 45 then (true, s.drop 1) else (false, s)
def intOk (s : List UInt8) : Bool := NForm (intP s).2 && !((intP s).1 && (intP s).2 == [48])
/-- The parts of a text that has the form of a number, perhaps with common divisors. -/
def shapeQ (s : List UInt8) : Option (Bool × Nat × Nat × Bool) :=
  if intOk (cutQ s).1 then
    match (cutQ s).2 with
    | none => some ((intP (cutQ s).1).1, dv (intP (cutQ s).1).2, 1, false)
    | some d => if (intP (cutQ s).1).2 != [48] && (NForm d && (d != [48] && d != [49])) then some ((intP (cutQ s).1).1, dv (intP (cutQ s).1).2, dv d, true) else none
  else none
def maxD : Nat := 4000
/-- The error of a text. -/
def errQ (s : List UInt8) : Nat :=
  match shapeQ s with
  | none => 3
  | some (_, n, d, sl) => if maxD < nDigits n ∨ maxD < nDigits d then 5 else if sl && n.gcd d != 1 then 3 else 0
/-- The number of a text; 0 where it has none. -/
def valQ (s : List UInt8) : Rat :=
  match shapeQ s with
  | none => 0
  | some (m, n, d, _) => mkQ m n d

theorem dec_zero : decDigits 0 = [48] := decDigits_one (by omega)
theorem dec_one : decDigits 1 = [49] := decDigits_one (by omega)
theorem intP_dec (n : Nat) : intP (decDigits n) = (false, decDigits n) := by
  unfold intP
  rw [if_neg]
  intro e
  exact not_minus (decDigits_dg n) (List.mem_of_mem_head? (by rw [e]; rfl))
theorem intP_minus (n : Nat) : intP (45 :: decDigits n) = (true, decDigits n) := by unfold intP; simp
theorem nform_dec (n : Nat) : NForm (decDigits n) = true := NForm_iff.2 ⟨n, rfl⟩
theorem dec_ne_zero {n : Nat} (h : n ≠ 0) : decDigits n ≠ [48] := fun e => h (decDigits_inj (e.trans dec_zero.symm))
theorem dec_ne_one {n : Nat} (h : n ≠ 1) : decDigits n ≠ [49] := fun e => h (decDigits_inj (e.trans dec_one.symm))

/-- The shape of a text written of parts. -/
theorem shapeQ_text (m : Bool) (n d : Nat) (hm : m = true → n ≠ 0) (hd : d ≠ 0) (hn : d ≠ 1 → n ≠ 0) :
    shapeQ ((if m then [45] else []) ++ decDigits n ++ (if d = 1 then [] else 47 :: decDigits d)) = some (m, n, d, decide (d ≠ 1)) := by
  have hi : intP ((if m then [45] else []) ++ decDigits n) = (m, decDigits n) := by
    cases m with
    | false => simpa using intP_dec n
    | true => simpa using intP_minus n
  have hok : intOk ((if m then [45] else []) ++ decDigits n) = true := by
    unfold intOk
    rw [hi]
    simp only [nform_dec, Bool.true_and, Bool.not_eq_true', Bool.and_eq_false_iff]
    cases m with
    | false => left; rfl
    | true => right; simpa using dec_ne_zero (hm rfl)
  have hns : (47 : UInt8) ∉ (if m then [45] else []) ++ decDigits n := by
    intro h
    rcases List.mem_append.1 h with h | h
    · cases m <;> simp at h
    · exact not_slash (decDigits_dg n) h
  unfold shapeQ
  by_cases h1 : d = 1
  · subst h1
    rw [if_pos rfl, List.append_nil, cutQ_none hns]
    dsimp only
    rw [if_pos hok, hi, dv_decDigits]
    simp
  · rw [if_neg h1, cutQ_slash hns]
    dsimp only
    rw [if_pos hok, hi, dv_decDigits, dv_decDigits]
    have e1 := dec_ne_zero (hn h1)
    have e2 := dec_ne_zero hd
    have e3 := dec_ne_one h1
    simp [e1, e2, e3, nform_dec, h1]
/-- What has a shape is written of its parts. -/
theorem text_of_shape {s : List UInt8} {m sl : Bool} {n d : Nat} (h : shapeQ s = some (m, n, d, sl)) :
    s = (if m then [45] else []) ++ decDigits n ++ (if d = 1 then [] else 47 :: decDigits d) ∧ (m = true → n ≠ 0) ∧ d ≠ 0 ∧ sl = decide (d ≠ 1) ∧ (d ≠ 1 → n ≠ 0) := by
  have hint : ∀ t, intOk t = true → t = (if (intP t).1 then [45] else []) ++ decDigits (dv (intP t).2) ∧ ((intP t).1 = true → dv (intP t).2 ≠ 0) := by
    intro t ht
    unfold intOk at ht
    simp only [Bool.and_eq_true, Bool.not_eq_true', Bool.and_eq_false_iff] at ht
    obtain ⟨h1, h2⟩ := ht
    rw [(NForm.eq h1)]
    refine ⟨?_, fun hm => ?_⟩
    · unfold intP
      by_cases hh : t.head? = some 45
      · rw [if_pos hh]
        cases t with
        | nil => cases hh
        | cons x r => simp at hh; subst hh; simp
      · rw [if_neg hh]; simp
    · rcases h2 with h2 | h2
      · rw [hm] at h2; cases h2
      · intro h0
        have := (NForm.eq h1)
        rw [h0, dec_zero] at this
        rw [← this] at h2
        simp at h2
  unfold shapeQ at h
  split at h
  · rename_i hok
    obtain ⟨e1, e2⟩ := hint _ hok
    rcases cutQ_cases s with ⟨a, r, rfl, hn⟩ | hn
    · rw [cutQ_slash hn] at h hok e1 e2
      dsimp only at h hok e1 e2
      split at h
      · rename_i hc
        simp only [Option.some.injEq, Prod.mk.injEq] at h
        obtain ⟨rfl, rfl, rfl, rfl⟩ := h
        simp only [Bool.and_eq_true, bne_iff_ne, ne_eq] at hc
        obtain ⟨c1, c2, c3, c4⟩ := hc
        have hr := (NForm.eq c2)
        have hd0 : dv r ≠ 0 := fun e => by rw [e, dec_zero] at hr; exact c3 hr.symm
        have hd1 : dv r ≠ 1 := fun e => by rw [e, dec_one] at hr; exact c4 hr.symm
        refine ⟨?_, e2, hd0, by simp [hd1], fun _ h0 => ?_⟩
        · rw [if_neg hd1, hr, ← e1]
        · have hok2 := hok
          unfold intOk at hok2
          simp only [Bool.and_eq_true] at hok2
          have := (NForm.eq hok2.1)
          rw [h0, dec_zero] at this
          exact c1 this.symm
      · cases h
    · rw [cutQ_none hn] at h hok e1 e2
      dsimp only at h hok e1 e2
      simp only [Option.some.injEq, Prod.mk.injEq] at h
      obtain ⟨rfl, rfl, rfl, rfl⟩ := h
      refine ⟨by simpa using e1, e2, by omega, by simp, fun h => absurd rfl h⟩
  · cases h

theorem shapeQ_rat (q : Rat) : shapeQ (ratText q) = some (ng q, nm q, q.den, decide (q.den ≠ 1)) := by
  refine shapeQ_text _ _ _ ng_nm q.den_nz (fun h h0 => h ?_)
  have := coprime q
  rw [h0] at this
  simpa using this
theorem valQ_rat (q : Rat) : valQ (ratText q) = q := by unfold valQ; rw [shapeQ_rat]; exact mkQ_self q
theorem errQ_rat {q : Rat} (h1 : nDigits (nm q) ≤ maxD) (h2 : nDigits q.den ≤ maxD) : errQ (ratText q) = 0 := by
  unfold errQ
  rw [shapeQ_rat]
  dsimp only
  rw [if_neg (by omega), coprime]
  simp
/-- A text without an error is the text of its number. -/
theorem text_of_ok {s : List UInt8} (h : errQ s = 0) : s = ratText (valQ s) ∧ nDigits (nm (valQ s)) ≤ maxD ∧ nDigits (valQ s).den ≤ maxD := by
  unfold errQ at h
  unfold valQ
  cases hs : shapeQ s with
  | none => rw [hs] at h; simp at h
  | some x =>
    obtain ⟨m, n, d, sl⟩ := x
    rw [hs] at h
    dsimp only at h ⊢
    obtain ⟨e1, e2, e3, e4, e5⟩ := text_of_shape hs
    split at h
    · cases h
    · rename_i hmx
      split at h
      · cases h
      · rename_i hg
        have hgc : n.gcd d = 1 := by
          by_cases h1 : d = 1
          · subst h1; simp
          · rw [e4] at hg; simpa [h1] using hg
        obtain ⟨q1, q2, q3⟩ := mkQ_low (m := m) e3 hgc
        have q4 : ng (mkQ m n d) = m := by
          rw [q3]
          cases m with
          | false => rfl
          | true => simpa using e2 rfl
        refine ⟨?_, by rw [q1]; omega, by rw [q2]; omega⟩
        unfold ratText
        rw [q1, q2, q4]
        exact e1
/-- The kit's cut at a slash. -/
theorem index_slash : ∀ (a r : List UInt8), (47 : UInt8) ∉ a → Lib.index (a ++ 47 :: r) [47] = (a.length : Int)
  | [], r, _ => by unfold Lib.index; simp [List.isPrefixOf]
  | x :: a, r, h => by
    have hx : (47 : UInt8) ≠ x := fun e => h (by simp [e])
    have ih := index_slash a r (fun hm => h (List.mem_cons_of_mem _ hm))
    have h1 : ([47] : List UInt8).isPrefixOf (x :: (a ++ 47 :: r)) = false := by simp [List.isPrefixOf, hx]
    rw [List.cons_append, Lib.index, h1, ih]
    have h2 : ((a.length : Int) == -1) = false := by rw [beq_eq_false_iff_ne]; omega
    rw [h2]
    simp
theorem index_noslash : ∀ (s : List UInt8), (47 : UInt8) ∉ s → Lib.index s [47] = -1
  | [], _ => by unfold Lib.index; simp
  | x :: a, h => by
    have hx : (47 : UInt8) ≠ x := fun e => h (by simp [e])
    have ih := index_noslash a (fun hm => h (List.mem_cons_of_mem _ hm))
    have h1 : ([47] : List UInt8).isPrefixOf (x :: a) = false := by simp [List.isPrefixOf, hx]
    rw [Lib.index, h1, ih]
    simp
theorem cut_eq (s : List UInt8) : Lib.cut s [47] = ((cutQ s).1, (cutQ s).2.getD [], (cutQ s).2.isSome) := by
  unfold Lib.cut
  rcases cutQ_cases s with ⟨a, r, rfl, hn⟩ | hn
  · rw [index_slash a r hn, cutQ_slash hn, if_pos (by omega)]
    simp
  · rw [index_noslash s hn, cutQ_none hn, if_neg (by omega)]
    simp

/-! ### what the functions of numbers return -/
/-- A number's text, or the error of a number that is too long. -/
def outQ (q : Rat) : List UInt8 × Nat := if maxD < nDigits (nm q) ∨ maxD < nDigits q.den then ([], 5) else (ratText q, 0)
def oneQ (f : Rat → List UInt8 × Nat) (a : List UInt8) : List UInt8 × Nat := if errQ a ≠ 0 then ([], errQ a) else f (valQ a)
def twoQ (f : Rat → Rat → List UInt8 × Nat) (a b : List UInt8) : List UInt8 × Nat :=
  if errQ a ≠ 0 then ([], errQ a) else if errQ b ≠ 0 then ([], errQ b) else f (valQ a) (valQ b)

end Go.Proofs.YtbfhonhjejeaiaaGreatDoor.Lim
namespace Go.Proofs.YtbfhonhjejeaiaaGreatDoor.Lim
open Go.Lib

/-- Both parts have at most k digits. -/
def Sz (k : Nat) (q : Rat) : Prop := nm q < 10 ^ k ∧ q.den < 10 ^ k
theorem pow_le {j k : Nat} (h : j ≤ k) : 10 ^ j ≤ 10 ^ k := Nat.pow_le_pow_right (by omega) h
theorem Sz.mono {j k : Nat} {q : Rat} (h : Sz j q) (hk : j ≤ k) : Sz k q := ⟨Nat.lt_of_lt_of_le h.1 (pow_le hk), Nat.lt_of_lt_of_le h.2 (pow_le hk)⟩
theorem Sz.pos {k : Nat} {q : Rat} (h : Sz k q) : 0 < k := by
  rcases Nat.eq_zero_or_pos k with rfl | hk
  · have := h.2; have := den_pos q; omega
  · exact hk
theorem nDigits_iff {n k : Nat} (hk : 0 < k) : nDigits n ≤ k ↔ n < 10 ^ k := ⟨le_of_nDigits, nDigits_le hk⟩
theorem sz_iff {k : Nat} (hk : 0 < k) {q : Rat} : Sz k q ↔ nDigits (nm q) ≤ k ∧ nDigits q.den ≤ k := by
  unfold Sz; rw [nDigits_iff hk, nDigits_iff hk]
theorem outQ_ok {k : Nat} {q : Rat} (h : Sz k q) (hk : k ≤ maxD) : outQ q = (ratText q, 0) := by
  obtain ⟨h1, h2⟩ := (sz_iff h.pos).1 h
  unfold outQ; rw [if_neg (by omega)]
theorem errQ_ok {k : Nat} {q : Rat} (h : Sz k q) (hk : k ≤ maxD) : errQ (ratText q) = 0 := by
  obtain ⟨h1, h2⟩ := (sz_iff h.pos).1 h
  exact errQ_rat (by omega) (by omega)

theorem mkQ_nm_le {m : Bool} {n d : Nat} (hd : d ≠ 0) : nm (mkQ m n d) ≤ n := by rw [mkQ_nm hd]; exact Nat.div_le_self _ _
theorem mkQ_den_le {m : Bool} {n d : Nat} (hd : d ≠ 0) : (mkQ m n d).den ≤ d := by rw [mkQ_den hd]; exact Nat.div_le_self _ _
theorem mul_lt_pow {a b j k : Nat} (ha : a < 10 ^ j) (hb : b < 10 ^ k) : a * b < 10 ^ (j + k) := by
  rw [Nat.pow_add]; exact Nat.mul_lt_mul'' ha hb
section
variable {j k : Nat} {a b : Rat}
theorem Sz.add (ha : Sz j a) (hb : Sz k b) : Sz (j + k + 1) (a + b) := by
  have x := mul_lt_pow ha.1 hb.2
  have y := mul_lt_pow hb.1 ha.2
  have d := mul_lt_pow ha.2 hb.2
  rw [Nat.add_comm k j] at y
  have hd : a.den * b.den ≠ 0 := Nat.ne_of_gt (Nat.mul_pos (den_pos a) (den_pos b))
  have hp : 10 ^ (j + k + 1) = 10 ^ (j + k) * 10 := Nat.pow_succ ..
  by_cases h : ng a = ng b
  · rw [add_same h]
    have h1 := mkQ_nm_le (m := ng a) (n := nm a * b.den + nm b * a.den) hd
    have h2 := mkQ_den_le (m := ng a) (n := nm a * b.den + nm b * a.den) hd
    exact ⟨by omega, by omega⟩
  · by_cases hlt : nm a * b.den < nm b * a.den
    · rw [add_less h hlt]
      have h1 := mkQ_nm_le (m := ng b) (n := nm b * a.den - nm a * b.den) hd
      have h2 := mkQ_den_le (m := ng b) (n := nm b * a.den - nm a * b.den) hd
      exact ⟨by omega, by omega⟩
    · rw [add_more h hlt]
      have h1 := mkQ_nm_le (m := ng a) (n := nm a * b.den - nm b * a.den) hd
      have h2 := mkQ_den_le (m := ng a) (n := nm a * b.den - nm b * a.den) hd
      exact ⟨by omega, by omega⟩
theorem Sz.mul (ha : Sz j a) (hb : Sz k b) : Sz (j + k) (a * b) := by
  have x := mul_lt_pow ha.1 hb.1
  have d := mul_lt_pow ha.2 hb.2
  have hd : a.den * b.den ≠ 0 := Nat.ne_of_gt (Nat.mul_pos (den_pos a) (den_pos b))
  rw [mul_parts]
  exact ⟨Nat.lt_of_le_of_lt (mkQ_nm_le hd) x, Nat.lt_of_le_of_lt (mkQ_den_le hd) d⟩
theorem Sz.neg (ha : Sz j a) : Sz j (-a) := by
  obtain ⟨_, h1, h2⟩ := neg_parts a
  exact ⟨by rw [h1]; exact ha.1, by rw [h2]; exact ha.2⟩
theorem Sz.inv (ha : Sz j a) : Sz j a⁻¹ := by
  by_cases h : a = 0
  · subst h; rw [Rat.inv_zero]; exact ha
  · obtain ⟨_, h1, h2⟩ := inv_parts h
    exact ⟨by rw [h1]; exact ha.2, by rw [h2]; exact ha.1⟩
theorem Sz.one : Sz 1 1 := ⟨by decide, by decide⟩
theorem Sz.zero : Sz 1 0 := ⟨by decide, by decide⟩
theorem pow_lt_pow {x j : Nat} (h : x < 10 ^ j) : ∀ n, 0 < n → x ^ n < 10 ^ (j * n) := fun n hn => by
  rw [Nat.pow_mul]; exact Nat.pow_lt_pow_left h (by omega)
theorem Sz.pow (ha : Sz j a) (n : Nat) : Sz (j * n + 1) (a ^ n) := by
  rcases Nat.eq_zero_or_pos n with rfl | hn
  · rw [Rat.pow_zero]; exact Sz.one.mono (by omega)
  · obtain ⟨h1, h2, _⟩ := pow_parts a n
    have hx := pow_lt_pow ha.1 n hn
    have hy := pow_lt_pow ha.2 n hn
    have hp := pow_le (show j * n ≤ j * n + 1 by omega)
    exact ⟨by rw [h1]; omega, by rw [h2]; omega⟩
end

/-- A short text is the text of a short number. -/
theorem ratText_len (q : Rat) : nDigits (nm q) ≤ (ratText q).length ∧ nDigits q.den ≤ (ratText q).length := by
  unfold ratText
  simp only [List.length_append, decDigits_length]
  have := nDigits_pos (nm q)
  refine ⟨by omega, ?_⟩
  by_cases h : q.den = 1
  · rw [h, nDigits_small (by omega)]; simp; omega
  · rw [if_neg h, List.length_cons, decDigits_length]; omega
theorem sz_of_text {s : List UInt8} (h : errQ s = 0) {k : Nat} (hk : s.length ≤ k) : Sz k (valQ s) := by
  obtain ⟨e, _, _⟩ := text_of_ok h
  obtain ⟨h1, h2⟩ := ratText_len (valQ s)
  rw [← e] at h1 h2
  have := nDigits_pos (nm (valQ s))
  exact (sz_iff (by omega)).2 ⟨by omega, by omega⟩
theorem sz_max {s : List UInt8} (h : errQ s = 0) : Sz maxD (valQ s) := by
  obtain ⟨_, h1, h2⟩ := text_of_ok h
  exact (sz_iff (by decide)).2 ⟨h1, h2⟩
/-- How many limbs. -/
theorem limbs_of {n k : Nat} (h : n < 10 ^ (9 * k)) : (toL n).length ≤ k := toL_len_le (by rw [B_pow]; exact h)
theorem Sz.limbs {k : Nat} {q : Rat} (h : Sz (9 * k) q) : (toL (nm q)).length ≤ k ∧ (toL q.den).length ≤ k := ⟨limbs_of h.1, limbs_of h.2⟩

end Go.Proofs.YtbfhonhjejeaiaaGreatDoor.Lim
namespace Go.Proofs.YtbfhonhjejeaiaaGreatDoor
open Go.RowKit Go.Shelf
open Lim

/-- A fraction's parts. -/
def IsParts (w : World) (v : Value) (m : Bool) (n d : Nat) : Prop := ∃ An cn Ad cd, v = .agg #[.bool m, .slice An (toL n).length cn, .slice Ad (toL d).length cd] ∧ IsNat w (.slice An (toL n).length cn) n ∧ IsNat w (.slice Ad (toL d).length cd) d
def IsFrac (w : World) (v : Value) (q : Rat) : Prop := IsParts w v (ng q) (nm q) q.den
theorem IsParts.below {w w' : World} {v : Value} {m : Bool} {n d : Nat} (h : IsParts w v m n d) (hb : Below w.heap.size w w') : IsParts w' v m n d := by
  obtain ⟨An, cn, Ad, cd, e, h1, h2⟩ := h
  exact ⟨An, cn, Ad, cd, e, h1.below hb, h2.below hb⟩
theorem IsFrac.below {w w' : World} {v : Value} {q : Rat} (h : IsFrac w v q) (hb : Below w.heap.size w w') : IsFrac w' v q := IsParts.below h hb
theorem isParts_mk {w : World} {m : Bool} {n d : Nat} {vn vd : Value} (h1 : IsNat w vn n) (h2 : IsNat w vd d) : IsParts w (.agg #[.bool m, vn, vd]) m n d := by
  obtain ⟨An, cn, rfl, a1, a2, a3⟩ := h1
  obtain ⟨Ad, cd, rfl, b1, b2, b3⟩ := h2
  exact ⟨An, cn, Ad, cd, rfl, ⟨An, cn, rfl, a1, a2, a3⟩, ⟨Ad, cd, rfl, b1, b2, b3⟩⟩

/-- The sign of a number. -/
def sgQ (q : Rat) : Int := if nm q = 0 then 0 else if ng q then -1 else 1

theorem len_zero {n : Nat} : (((toL n).length : Int) == 0) = decide (n = 0) := by
  by_cases h : n = 0
  · subst h; simp [toL_zero]
  · have := toL_len_pos.2 h
    rw [decide_eq_false h, beq_eq_false_iff_ne]
    omega
set_option maxRecDepth 100000 in
set_option maxHeartbeats 1200000 in
theorem sign_any (q : Rat) (v : Value) (w : World) (h : IsFrac w v q) :
    Calls Tryz.prog 129 #[v] w fun e w' => e = .returned (.int .i64 (sgQ q)) ∧ Below w.heap.size w w' := by
  obtain ⟨An, cn, Ad, cd, rfl, h1, h2⟩ := h
  have hz := len_zero (n := nm q)
  have hb := fun vn vd m => (Below.refl w.heap.size w).alloc (Nat.le_refl _) (.cells #[.bool m, vn, vd] 160)
  have HB := Lib.hid hb
  unfold sgQ
  clear h1 h2 hb
  by_cases h0 : nm q = 0
  · rw [decide_eq_true h0] at hz
    rw [if_pos h0]
    clear h0
    go_enter Tryz.func129, Tryz.ntmps129
    go_wp2
    refine bodyPost_ret (results_tmp rfl _ _ _) rfl ?_
    exact ⟨rfl, HB.out _ _ _⟩
  · rw [decide_eq_false h0] at hz
    rw [if_neg h0]
    clear h0
    generalize ng q = m
    cases m with
    | true =>
      go_enter Tryz.func129, Tryz.ntmps129
      go_wp2
      refine bodyPost_ret (results_tmp rfl _ _ _) rfl ?_
      exact ⟨rfl, HB.out _ _ _⟩
    | false =>
      go_enter Tryz.func129, Tryz.ntmps129
      go_wp2
      refine bodyPost_ret (results_tmp rfl _ _ _) rfl ?_
      exact ⟨rfl, HB.out _ _ _⟩

theorem cellrow {w : World} {b : Nat} {cs : Array Value} {t : TypeId} (h : Blk w b t cs) (i : Nat) (hi : i < cs.size) : w.cell? ⟨b, i, none⟩ = some cs[i] ∧ w.frozen? ⟨b, i, none⟩ = false := by
  unfold Blk at h
  refine ⟨by simp [World.cell?, h, hi], by simp [World.frozen?, h]⟩
theorem fsize : (Tryz.prog.info? 160).map (·.size) = some 3 := by kernel_rfl
/-- A function whose result is a fraction in a block. -/
theorem ret_frac {fn : Func} {p : Tmp} {R : Ending → World → Prop} {a : Act} {w : World} {g : Nat} {t : TypeId} {m vn vd : Value} (h : fn.results = #[.cell p 160]) (hd : a.defers = []) (hp : a.tmps.getD p undef = .pointer (some ⟨g, 0, none⟩))
    (hg : Blk w g t #[m, vn, vd]) (hR : R (.returned (.agg #[m, vn, vd])) w) : bodyPost Tryz.prog fn R .ret a w :=
  bodyPost_ret (results_cell_row h _ _ g t _ (0, 0) _ hp hg Tryz.underlying160 rfl fsize) hd hR
theorem set3 {w : World} {g : Nat} {t : TypeId} {a b c x y z : Value} (h : Blk w g t #[a, b, c]) : Blk (((w.setCell ⟨g, 0, none⟩ x).setCell ⟨g, 1, none⟩ y).setCell ⟨g, 2, none⟩ z) g t #[x, y, z] := ((h.set_ 0 x).set_ 1 y).set_ 2 z
theorem set3_below {n : Nat} {w w' : World} {g : Nat} {x y z : Value} (h : Below n w w') (hg : n ≤ g) : Below n w (((w'.setCell ⟨g, 0, none⟩ x).setCell ⟨g, 1, none⟩ y).setCell ⟨g, 2, none⟩ z) := ((h.setCell hg _).setCell hg _).setCell hg _
theorem IsNat.far {w : World} {v : Value} {n g : Nat} {t : TypeId} {a b c : Value} {i : Nat} {x : Value} (h : IsNat w v n) (hb : Blk w g t #[a, b, c]) (ha : ∀ z : Int, a ≠ .int .u64 z) (hbb : ∀ z : Int, b ≠ .int .u64 z) (hc : ∀ z : Int, c ≠ .int .u64 z) : IsNat (w.setCell ⟨g, i, none⟩ x) v n := by
  obtain ⟨A, k, e, h1, h2, h3⟩ := h
  refine ⟨A, k, e, h1, h2, fun h0 => ?_⟩
  obtain ⟨b', o, hA, hlt, hcc⟩ := h3 h0
  have hz := U64_get (l := toL n) (j := 0) (by rwa [U64_length] at h0)
  have hc0 := hcc 0 _ hz
  have hne : b' ≠ g := by
    intro e
    subst e
    have := Blk.cell hb (o + 0)
    rw [hc0] at this
    rcases ho : o + 0 with _ | _ | _ | k
    · rw [ho] at this; simp at this; exact ha _ this.symm
    · rw [ho] at this; simp at this; exact hbb _ this.symm
    · rw [ho] at this; simp at this; exact hc _ this.symm
    · rw [ho] at this; simp at this
  have hh := Below.heap_setCell w ⟨g, i, none⟩ x b' hne
  exact ⟨b', o, hA, by simpa [World.setCell] using hlt, fun j x hx => SameAt.cell (w := w) (S := fun k => k = b') ⟨_, fun k hk => by rw [hk]; exact hh⟩ rfl (hcc j x hx)⟩
/-- The result block is written. -/
theorem isNat_set3 {w : World} {v : Value} {n g : Nat} {t : TypeId} {m' m : Bool} {A A' D D' : Option Addr} {l c l' c' a b a' b' : Nat} (h : IsNat w v n) (hb : Blk w g t #[.bool m, .slice A l c, .slice A' l' c']) :
    IsNat (((w.setCell ⟨g, 0, none⟩ (.bool m')).setCell ⟨g, 1, none⟩ (.slice D a b)).setCell ⟨g, 2, none⟩ (.slice D' a' b')) v n :=
  ((h.far hb (fun _ h => by cases h) (fun _ h => by cases h) (fun _ h => by cases h)).far (hb.set_ 0 (.bool m')) (fun _ h => by cases h) (fun _ h => by cases h) (fun _ h => by cases h)).far ((hb.set_ 0 (.bool m')).set_ 1 (.slice D a b)) (fun _ h => by cases h) (fun _ h => by cases h) (fun _ h => by cases h)

set_option maxRecDepth 100000 in
set_option maxHeartbeats 1200000 in
theorem finv_any (m : Bool) (n d : Nat) (v : Value) (w : World) (h : IsParts w v m n d) :
    Calls Tryz.prog 175 #[v] w fun e w' => ∃ v', e = .returned v' ∧ IsParts w' v' m d n ∧ Below w.heap.size w w' := by
  obtain ⟨An, cn, Ad, cd, rfl, h1, h2⟩ := h
  have H1 := Lib.hid h1
  have H2 := Lib.hid h2
  clear h1 h2
  go_enter Tryz.func175, Tryz.ntmps175
  go_wp2
  have hb := ((Below.refl w.heap.size w).alloc (Nat.le_refl _) (.cells #[.bool m, .slice An (toL n).length cn, .slice Ad (toL d).length cd] 160)).alloc (by simp) (.cells #[.bool m, .slice Ad (toL d).length cd, .slice An (toL n).length cn] 160)
  refine ret_frac rfl rfl (by simp) (Blk.new _ _ _) ⟨_, rfl, isParts_mk (H2.out.below hb) (H1.out.below hb), hb⟩
theorem toL_zero_nat (w : World) : IsNat w (.slice none 0 0) 0 := ⟨none, 0, by rw [toL_zero]; rfl, by rw [toL_zero]; exact Nat.le_refl _, by unfold maxLen; omega, fun h => by rw [toL_zero] at h; simp [U64] at h⟩
set_option maxRecDepth 100000 in
set_option maxHeartbeats 1200000 in
theorem fzero_any (w : World) :
    Calls Tryz.prog 194 #[] w fun e w' => ∃ v', e = .returned v' ∧ IsParts w' v' false 0 1 ∧ Below w.heap.size w w' := by
  go_enter Tryz.func194, Tryz.ntmps194
  go_upto_region 1 with fail
  have HB0 := Lib.hid (Blk.new w 160 #[.bool false, .slice none 0 0, .slice none 0 0])
  have hbw := (Below.refl w.heap.size w).alloc (Nat.le_refl _) (.cells #[.bool false, .slice none 0 0, .slice none 0 0] 160)
  have HBW := Lib.hid hbw
  clear hbw
  go_wp2_with (go_at_call 211; refine (of_any 1 _ (by omega)).mono ?_; rintro e w1 ⟨v1, rfl, ho, hb⟩; obtain ⟨A, c, rfl, _, _, _⟩ := id ho; have HB1 := Lib.hid (HB0.out.below hb HB0.out.lt); obtain ⟨r0, s0⟩ := cellrow HB1.out 0 (by simp); obtain ⟨r1, s1⟩ := cellrow HB1.out 1 (by simp); obtain ⟨r2, s2⟩ := cellrow HB1.out 2 (by simp); have HO := Lib.hid ho; have HX := Lib.hid hb; clear ho hb)
  refine ret_frac rfl rfl (by simp) (set3 HB1.out) ⟨_, rfl, ?_, ?_⟩
  · exact isParts_mk (toL_zero_nat _) (isNat_set3 HO.out HB1.out)
  · exact set3_below (HBW.out.trans (HX.out.mono (by simp))) (Nat.le_refl _)

/-- What the result block of a function holds after a call. -/
theorem res_rows {w w' : World} {n g : Nat} {m : Bool} {A A' : Option Addr} {l c l' c' : Nat} (h : Blk w g 160 #[.bool m, .slice A l c, .slice A' l' c']) (hb : Below n w w') (hg : g < n) :
    Hid (Blk w' g 160 #[.bool m, .slice A l c, .slice A' l' c']) ∧ w'.cell? ⟨g, 0, none⟩ = some (.bool m) ∧ w'.frozen? ⟨g, 0, none⟩ = false ∧ w'.cell? ⟨g, 1, none⟩ = some (.slice A l c) ∧ w'.frozen? ⟨g, 1, none⟩ = false ∧ w'.cell? ⟨g, 2, none⟩ = some (.slice A' l' c') ∧ w'.frozen? ⟨g, 2, none⟩ = false := by
  have h' := h.below hb hg
  obtain ⟨r0, s0⟩ := cellrow h' 0 (by simp)
  obtain ⟨r1, s1⟩ := cellrow h' 1 (by simp)
  obtain ⟨r2, s2⟩ := cellrow h' 2 (by simp)
  exact ⟨Lib.hid h', r0, s0, r1, s1, r2, s2⟩

set_option maxRecDepth 100000 in
set_option maxHeartbeats 2000000 in
theorem make_zero (m : Bool) (n d : Nat) (vn vd : Value) (w : World) (hn : IsNat w vn n) (hd : IsNat w vd d) (h0 : n = 0) :
    Calls Tryz.prog 163 #[.bool m, vn, vd] w fun e w' => ∃ v, e = .returned v ∧ IsParts w' v false 0 1 ∧ Below w.heap.size w w' := by
  have HN := Lib.hid hn
  obtain ⟨An, cn, rfl, _, _, _⟩ := hn
  obtain ⟨Ad, cd, rfl, _, _, _⟩ := hd
  have hz : decide (n = 0) = true := decide_eq_true h0
  have HB0 := Lib.hid (Blk.new w 160 #[.bool false, .slice none 0 0, .slice none 0 0])
  have HBW := Lib.hid ((Below.refl w.heap.size w).alloc (Nat.le_refl _) (.cells #[.bool false, .slice none 0 0, .slice none 0 0] 160))
  clear h0
  go_enter Tryz.func163, Tryz.ntmps163
  go_wp2_with (first
    | (go_at_call 174; refine (zero_any n _ _ (HN.out.below HBW.out)).mono ?_; rintro e w1 ⟨rfl, rfl⟩; rw [hz])
    | (go_at_call 194; refine (fzero_any _).mono ?_; rintro e w1 ⟨v1, rfl, ⟨An', cn', Ad', cd', rfl, hn', hd'⟩, hb⟩; have HN' := Lib.hid hn'; have HD' := Lib.hid hd'; have HX := Lib.hid hb; obtain ⟨HB1, r0, s0, r1, s1, r2, s2⟩ := res_rows HB0.out hb (by simp); clear hb hn' hd'))
  refine ret_frac rfl rfl (by simp) (set3 HB1.out) ⟨_, rfl, ?_, ?_⟩
  · exact isParts_mk (isNat_set3 HN'.out HB1.out) (isNat_set3 HD'.out HB1.out)
  · exact set3_below (HBW.out.trans (HX.out.mono (by simp))) (Nat.le_refl _)

set_option maxRecDepth 100000 in
set_option maxHeartbeats 2000000 in
theorem make_one (m : Bool) (n d : Nat) (vn vd : Value) (w : World) (hn : IsNat w vn n) (hd : IsNat w vd d) (h0 : n ≠ 0) (h1 : d = 1) :
    Calls Tryz.prog 163 #[.bool m, vn, vd] w fun e w' => ∃ v, e = .returned v ∧ IsParts w' v m n d ∧ Below w.heap.size w w' := by
  have HN := Lib.hid hn
  have HD := Lib.hid hd
  obtain ⟨An, cn, rfl, _, _, _⟩ := hn
  obtain ⟨Ad, cd, rfl, _, _, _⟩ := hd
  have hz : decide (n = 0) = false := decide_eq_false h0
  have hd1 : decide (d = 1) = true := decide_eq_true h1
  have hbw := (Below.refl w.heap.size w).alloc (Nat.le_refl _) (.cells #[.bool false, .slice none 0 0, .slice none 0 0] 160)
  have hbm := (Below.refl w.heap.size w).alloc (Nat.le_refl _) (.cells #[.bool m, .slice An (toL n).length cn, .slice Ad (toL d).length cd] 160)
  have HBW := Lib.hid hbw
  have HBM := Lib.hid hbm
  clear h0 h1 hbw hbm
  go_enter Tryz.func163, Tryz.ntmps163
  go_wp2_with (first
    | (go_at_call 174; refine (zero_any n _ _ (HN.out.below HBW.out)).mono ?_; rintro e w1 ⟨rfl, rfl⟩; rw [hz])
    | (go_at_call 168; refine (one_any d _ _ (HD.out.below HBW.out)).mono ?_; rintro e w1 ⟨rfl, rfl⟩; rw [hd1]))
  refine ret_frac rfl rfl (by simp) (Blk.new w 160 #[.bool m, .slice An (toL n).length cn, .slice Ad (toL d).length cd]) ⟨_, rfl, ?_, ?_⟩
  · exact isParts_mk (HN.out.below HBM.out) (HD.out.below HBM.out)
  · exact HBM.out

set_option maxRecDepth 100000 in
set_option maxHeartbeats 4000000 in
theorem make_low (m : Bool) (n d : Nat) (vn vd : Value) (w : World) (hn : IsNat w vn n) (hd : IsNat w vd d) (h0 : n ≠ 0) (h1 : d ≠ 1) (hg : n.gcd d = 1) (hln : (toL n).length ≤ 30000) (hld : (toL d).length ≤ 30000) :
    Calls Tryz.prog 163 #[.bool m, vn, vd] w fun e w' => ∃ v, e = .returned v ∧ IsParts w' v m n d ∧ Below w.heap.size w w' := by
  have HN := Lib.hid hn
  have HD := Lib.hid hd
  obtain ⟨An, cn, rfl, _, _, _⟩ := hn
  obtain ⟨Ad, cd, rfl, _, _, _⟩ := hd
  have hz : decide (n = 0) = false := decide_eq_false h0
  have hd1 : decide (d = 1) = false := decide_eq_false h1
  have hg1 : decide (n.gcd d = 1) = true := decide_eq_true hg
  have HB0 := Lib.hid (Blk.new w 160 #[.bool false, .slice none 0 0, .slice none 0 0])
  have HBW := Lib.hid ((Below.refl w.heap.size w).alloc (Nat.le_refl _) (.cells #[.bool false, .slice none 0 0, .slice none 0 0] 160))
  have TK1 : True := trivial
  clear h0 h1 hg
  go_enter Tryz.func163, Tryz.ntmps163
  go_wp2_with (first
    | (go_at_call 174; refine (zero_any n _ _ (HN.out.below HBW.out)).mono ?_; rintro e w1 ⟨rfl, rfl⟩; rw [hz])
    | (clear TK1; go_at_call 168; refine (one_any d _ _ (HD.out.below HBW.out)).mono ?_; rintro e w1 ⟨rfl, rfl⟩; rw [hd1])
    | (go_at_call 173; refine (gcd_any n d _ _ _ (HN.out.below HBW.out) (HD.out.below HBW.out) hln hld).mono ?_; rintro e w1 ⟨v1, rfl, hgv, hb⟩; obtain ⟨Ag, cg, rfl, _, _, _⟩ := id hgv; have HG := Lib.hid hgv; have HX := Lib.hid hb; obtain ⟨HB1, r0, s0, r1, s1, r2, s2⟩ := res_rows HB0.out hb (by simp); clear hb hgv)
    | (go_at_call 168; refine (one_any (n.gcd d) _ _ HG.out).mono ?_; rintro e w2 ⟨rfl, hw2⟩; subst hw2; rw [hg1]))
  have hB := HBW.out.trans (HX.out.mono (by simp))
  refine ret_frac rfl rfl (by simp) (set3 HB1.out) ⟨_, rfl, ?_, ?_⟩
  · exact isParts_mk (isNat_set3 (HN.out.below hB) HB1.out) (isNat_set3 (HD.out.below hB) HB1.out)
  · exact set3_below hB (Nat.le_refl _)

set_option maxRecDepth 100000 in
set_option maxHeartbeats 4000000 in
theorem make_red (m : Bool) (n d : Nat) (vn vd : Value) (w : World) (hn : IsNat w vn n) (hd : IsNat w vd d) (h0 : n ≠ 0) (_hd0 : d ≠ 0) (h1 : d ≠ 1) (hg : n.gcd d ≠ 1) (hln : (toL n).length ≤ 30000) (hld : (toL d).length ≤ 30000) :
    Calls Tryz.prog 163 #[.bool m, vn, vd] w fun e w' => ∃ v, e = .returned v ∧ IsParts w' v m (n / n.gcd d) (d / n.gcd d) ∧ Below w.heap.size w w' := by
  have HN := Lib.hid hn
  have HD := Lib.hid hd
  obtain ⟨An, cn, rfl, _, _, _⟩ := hn
  obtain ⟨Ad, cd, rfl, _, _, _⟩ := hd
  have hz : decide (n = 0) = false := decide_eq_false h0
  have hd1 : decide (d = 1) = false := decide_eq_false h1
  have hg1 : decide (n.gcd d = 1) = false := decide_eq_false hg
  have hgp : 0 < n.gcd d := Nat.gcd_pos_of_pos_left _ (Nat.pos_of_ne_zero h0)
  have HB0 := Lib.hid (Blk.new w 160 #[.bool false, .slice none 0 0, .slice none 0 0])
  have HBW := Lib.hid ((Below.refl w.heap.size w).alloc (Nat.le_refl _) (.cells #[.bool false, .slice none 0 0, .slice none 0 0] 160))
  have TK1 : True := trivial
  have TK2 : True := trivial
  clear h0 h1 hg
  go_enter Tryz.func163, Tryz.ntmps163
  go_wp2_with (first
    | (go_at_call 174; refine (zero_any n _ _ (HN.out.below HBW.out)).mono ?_; rintro e w1 ⟨rfl, rfl⟩; rw [hz])
    | (clear TK1; go_at_call 168; refine (one_any d _ _ (HD.out.below HBW.out)).mono ?_; rintro e w1 ⟨rfl, rfl⟩; rw [hd1])
    | (go_at_call 173; refine (gcd_any n d _ _ _ (HN.out.below HBW.out) (HD.out.below HBW.out) hln hld).mono ?_; rintro e w1 ⟨v1, rfl, hgv, hb⟩; obtain ⟨Ag, cg, rfl, _, _, _⟩ := id hgv; have HG := Lib.hid hgv; have HX := Lib.hid (HBW.out.trans (hb.mono (by simp))); have HB1 := Lib.hid (HB0.out.below hb HB0.out.lt); clear hb hgv)
    | (go_at_call 168; refine (one_any (n.gcd d) _ _ HG.out).mono ?_; rintro e w2 ⟨rfl, hw2⟩; subst hw2; rw [hg1])
    | (clear TK2; go_at_call 195; refine (divmod_any n (n.gcd d) _ _ _ (HN.out.below HX.out) HG.out hln hgp).mono ?_; rintro e w3 ⟨vq3, vr3, rfl, hq3, hr3, hb3⟩; obtain ⟨Aq3, cq3, rfl, _, _, _⟩ := id hq3; have HQ3 := Lib.hid hq3; have HX3 := Lib.hid hb3; have HB3 := Lib.hid (HB1.out.below hb3 HB1.out.lt); clear hb3 hq3 hr3)
    | (go_at_call 195; refine (divmod_any d (n.gcd d) _ _ _ ((HD.out.below HX.out).below HX3.out) (HG.out.below HX3.out) hld hgp).mono ?_; rintro e w4 ⟨vq4, vr4, rfl, hq4, hr4, hb4⟩; obtain ⟨Aq4, cq4, rfl, _, _, _⟩ := id hq4; have HQ4 := Lib.hid hq4; have HX4 := Lib.hid hb4; obtain ⟨HB4, r0, s0, r1, s1, r2, s2⟩ := res_rows HB3.out hb4 HB3.out.lt; clear hb4 hq4 hr4))
  have hB := HX.out.trans ((HX3.out.mono HX.out.size).trans (HX4.out.mono (Nat.le_trans HX.out.size HX3.out.size)))
  refine ret_frac rfl rfl (by simp) (set3 HB4.out) ⟨_, rfl, ?_, ?_⟩
  · exact isParts_mk (isNat_set3 (HQ3.out.below HX4.out) HB4.out) (isNat_set3 HQ4.out HB4.out)
  · exact set3_below hB (Nat.le_refl _)

/-- Make gives the number of a fraction. -/
theorem fmake_any (m : Bool) (n d : Nat) (vn vd : Value) (w : World) (hn : IsNat w vn n) (hd : IsNat w vd d) (hd0 : d ≠ 0) (hln : (toL n).length ≤ 30000) (hld : (toL d).length ≤ 30000) :
    Calls Tryz.prog 163 #[.bool m, vn, vd] w fun e w' => ∃ v, e = .returned v ∧ IsFrac w' v (mkQ m n d) ∧ Below w.heap.size w w' := by
  by_cases h0 : n = 0
  · refine (make_zero m n d vn vd w hn hd h0).mono ?_
    rintro e w' ⟨v, rfl, h, hb⟩
    subst h0
    exact ⟨v, rfl, by rw [mkQ_zero]; exact h, hb⟩
  · have low : n.gcd d = 1 → (∀ w' v, IsParts w' v m n d → IsFrac w' v (mkQ m n d)) := fun hg w' v h => by
      obtain ⟨h1, h2, h3⟩ := mkQ_low (m := m) hd0 hg
      unfold IsFrac
      rw [h1, h2, h3, decide_eq_true h0, Bool.and_true]
      exact h
    by_cases h1 : d = 1
    · refine (make_one m n d vn vd w hn hd h0 h1).mono ?_
      rintro e w' ⟨v, rfl, h, hb⟩
      exact ⟨v, rfl, low (by rw [h1, Nat.gcd_one_right]) _ _ h, hb⟩
    · by_cases hg : n.gcd d = 1
      · refine (make_low m n d vn vd w hn hd h0 h1 hg hln hld).mono ?_
        rintro e w' ⟨v, rfl, h, hb⟩
        exact ⟨v, rfl, low hg _ _ h, hb⟩
      · refine (make_red m n d vn vd w hn hd h0 hd0 h1 hg hln hld).mono ?_
        rintro e w' ⟨v, rfl, h, hb⟩
        refine ⟨v, rfl, ?_, hb⟩
        unfold IsFrac
        rw [mkQ_ng hd0, mkQ_nm hd0, mkQ_den hd0, decide_eq_true h0, Bool.and_true]
        exact h
end Go.Proofs.YtbfhonhjejeaiaaGreatDoor
