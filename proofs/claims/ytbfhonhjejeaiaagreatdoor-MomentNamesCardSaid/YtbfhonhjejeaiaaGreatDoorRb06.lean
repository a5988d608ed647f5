/- limbs.Nat.Pow. frac: the functions whose regions draw their order. frac.Num: the text of a fraction. the reference's trim The reference's product. limbs.Nat.Add limbs.Nat.Sub The reference's Order, Plus, Minus. The reference's Plus and Minus. -/
import Derived.Test.YtbfhonhjejeaiaaGreatDoorRb04
import Derived.Test.YtbfhonhjejeaiaaGreatDoorRb05
import Derived.Test.YtbfhonhjejeaiaaGreatDoorRb03
import Derived.Sort.CutIn
import Derived.Test.YtbfhonhjejeaiaaGreatDoorRb01
namespace Go.Proofs.YtbfhonhjejeaiaaGreatDoor
open Go.RowKit Go.Shelf
open Lim

attribute [local go_sem] Oper.semAt_some

theorem isNat_of_blk {w : World} {g m cap : Nat} {rest : List Value} (h : Blk w g 201 (U64 (toL m) ++ rest).toArray) (h1 : (toL m).length ≤ cap) (h2 : cap ≤ maxLen) : IsNat w (.slice (some ⟨g, 0, none⟩) (toL m).length cap) m := by
  refine ⟨some ⟨g, 0, none⟩, cap, rfl, h1, h2, ?_⟩
  have hr := (h.row).take (toL m).length
  rw [List.take_left' (by rw [U64_length])] at hr
  exact hr

theorem toL_mul_len (a b : Nat) : (toL (a * b)).length ≤ (toL a).length + (toL b).length :=
  toL_len_le (by rw [Nat.pow_add]; exact Nat.mul_lt_mul'' (toL_lt a) (toL_lt b))
/-- What the closure of Pow leaves. -/
def Doubled (b9 b10 q : Nat) (w w' : World) : Prop :=
  (∃ (g cap : Nat) (_rest : List Value), w.heap.size ≤ g ∧ Boxed w' b9 158 (.slice (some ⟨g, 0, none⟩) (toL (q * q)).length cap) ∧ IsNat w' (.slice (some ⟨g, 0, none⟩) (toL (q * q)).length cap) (q * q)) ∧
  Boxed w' b10 4 (.bool (decide (Lib.nDigits (q * q) ≤ 4000))) ∧ (∀ n0, n0 ≤ b9 → n0 ≤ b10 → n0 ≤ w.heap.size → Below n0 w w') ∧ (∀ k, k < w.heap.size → k ≠ b9 → k ≠ b10 → w'.heap[k]? = w.heap[k]?)

set_option maxRecDepth 100000 in
set_option maxHeartbeats 2000000 in
theorem double_any (b9 b5 b10 : Nat) (vq : Value) (q : Nat) (f : Bool) (w : World) (h9 : Boxed w b9 158 vq) (hq : IsNat w vq q) (hq0 : 0 < q) (hlq : (toL q).length ≤ 10000)
    (h5 : Boxed w b5 3 (.int .i64 4000)) (h10 : Boxed w b10 4 (.bool f)) (h59 : b5 ≠ b9) (h910 : b9 ≠ b10) (h510 : b5 ≠ b10) (w0 : World) (hr : Res w0) (h0 : Below w0.heap.size w0 w) (hb9 : w0.heap.size ≤ b9) :
    Calls Tryz.prog 206 #[.pointer (some ⟨b9, 0, none⟩), .pointer (some ⟨b5, 0, none⟩), .pointer (some ⟨b10, 0, none⟩)] w fun e w' => e = .returned (.tuple #[]) ∧ Doubled b9 b10 q w w' := by
  have HQ := Lib.hid hq
  have c9 := h9.cell
  have l9 := h9.lt
  have l5 := h5.lt
  have l10 := h10.lt
  obtain ⟨A, c, rfl, _, _, _⟩ := hq
  have H9 := Lib.hid h9
  have H5 := Lib.hid h5
  have H10 := Lib.hid h10
  have HRES := Lib.hid hr
  have HNE := Lib.hid (And.intro h59 (And.intro h910 h510))
  have hqq : 0 < (toL (q * q)).length := toL_len_pos.2 (Nat.ne_of_gt (Nat.mul_pos hq0 hq0))
  have hlqq : (toL (q * q)).length ≤ 20000 := Nat.le_trans (toL_mul_len q q) (by omega)
  clear h9 h5 h10 hr h59 h910 h510
  refine (callsIn_wide (n := 3)).1 ?_
  have h1 : 1 ≤ 3 := by omega
  refine callsIn_of_wp Tryz.func206 rfl trivial ?_ rfl
  simp only [Tryz.ntmps206, List.size_toArray, List.length_cons, List.length_nil, Nat.reduceAdd, Nat.reduceSub, Array.replicate_succ, Array.replicate_zero, List.push_toArray, List.append_toArray, List.nil_append, List.cons_append]
  have TK1 : True := trivial
  gi_upto_region 1 with (clear TK1; refine ⟨trivial, ?_⟩; gi_at_call 161; refine (callsIn_wide.2 (mul_own q q _ _ _ HQ.out HQ.out (by omega) (by omega))).mono ?_; rintro e w1 ⟨v1, rfl, ho, hb⟩; obtain ⟨g, cap, rest, rfl, hg, hbk, hcap, hcapm, _⟩ := owns_blk ho hqq; have HG := Lib.hid hbk; have HB1 := Lib.hid hb; have d9 : Boxed w1 b9 158 _ := bx_below H9.out hb l9; have d9c := d9.cell; have d9f := d9.frozen; have D9 := Lib.hid d9; have D5 := Lib.hid (bx_below H5.out hb l5); have D10 := Lib.hid (bx_below H10.out hb l10); clear ho hbk hb d9)
  have hs1 := HB1.out.size
  have k9 : Boxed (w1.setCell ⟨b9, 0, none⟩ (.slice (some ⟨g, 0, none⟩) (toL (q * q)).length cap)) b9 158 _ := Boxed.set (.slice (some ⟨g, 0, none⟩) (toL (q * q)).length cap) D9.out
  have k5 : Boxed (w1.setCell ⟨b9, 0, none⟩ (.slice (some ⟨g, 0, none⟩) (toL (q * q)).length cap)) b5 3 _ := bx_far D5.out HNE.out.1 _
  have k10 : Boxed (w1.setCell ⟨b9, 0, none⟩ (.slice (some ⟨g, 0, none⟩) (toL (q * q)).length cap)) b10 4 _ := bx_far D10.out (by intro e; exact HNE.out.2.1 e.symm) _
  have kg : Blk (w1.setCell ⟨b9, 0, none⟩ (.slice (some ⟨g, 0, none⟩) (toL (q * q)).length cap)) g 201 (U64 (toL (q * q)) ++ rest).toArray := HG.out.far (by intro e; dsimp only at e; omega) _
  have kB : ∀ n0, n0 ≤ b9 → n0 ≤ w.heap.size → Below n0 w (w1.setCell ⟨b9, 0, none⟩ (.slice (some ⟨g, 0, none⟩) (toL (q * q)).length cap)) := fun n0 h1 h2 => (HB1.out.mono h2).setCell (p := ⟨b9, 0, none⟩) h1 _
  have kH : ∀ k, k < w.heap.size → k ≠ b9 → (w1.setCell ⟨b9, 0, none⟩ (.slice (some ⟨g, 0, none⟩) (toL (q * q)).length cap)).heap[k]? = w.heap[k]? := fun k h1 h2 => (Below.heap_setCell w1 ⟨b9, 0, none⟩ _ k h2).trans (HB1.out.block k h1)
  have kR : Res (w1.setCell ⟨b9, 0, none⟩ (.slice (some ⟨g, 0, none⟩) (toL (q * q)).length cap)) := by
    exact HRES.out.below (h0.trans ((HB1.out.mono h0.size).setCell (p := ⟨b9, 0, none⟩) hb9 _))
  have kS : w1.heap.size ≤ (w1.setCell ⟨b9, 0, none⟩ (.slice (some ⟨g, 0, none⟩) (toL (q * q)).length cap)).heap.size := by simp [World.setCell]
  have KB := Lib.hid kB
  have KH := Lib.hid kH
  have KG := Lib.hid kg
  clear kB kH kg d9c d9f c9
  generalize (w1.setCell ⟨b9, 0, none⟩ (.slice (some ⟨g, 0, none⟩) (toL (q * q)).length cap)) = W at *
  have e9 := k9.cell
  have e5 := k5.cell
  have hmx : Tryz.prog.follows .mixedOrders = true := by kernel_rfl
  have x9' : ∀ X : SameAt W (fun k => k < W.heap.size ∧ k ≠ b10), X.W.cell? ⟨b9, 0, none⟩ = _ := fun X => X.cell ⟨k9.lt, HNE.out.2.1⟩ e9
  have x5' : ∀ X : SameAt W (fun k => k < W.heap.size ∧ k ≠ b10), X.W.cell? ⟨b5, 0, none⟩ = _ := fun X => X.cell ⟨k5.lt, HNE.out.2.2⟩ e5
  refine wpIn_stage (IsSame W (fun k => k < W.heap.size ∧ k ≠ b10)) [0, 2, 3] [] hmx (by kernel_rfl) (isSame_of fun _ _ => rfl) ?_
  change wpStage _ _ _ _ _ _ _ _ (3 + 2) _ _ _
  refine stage_reads [0, 2] 3 _ _ (by kernel_rfl) ?_
  change wpQuietIn _ _ _ _ (fun W' => ∃ x : SameAt W (fun k => k < W.heap.size ∧ k ≠ b10), W' = x.W) _ _ _
  simp only [pick_cons, pick_nil, List.getElem?_cons_zero, List.getElem?_cons_succ, Option.elim_some]
  repeat (gi_big_quiet_step (fail))
  refine wpQuietIn_nil ?_
  refine stage_one 1 (by kernel_rfl) rfl ?_
  gi_wp2
  refine ⟨trivial, ?_⟩
  refine (callsIn_wide.2 (digits_any (q * q) _ W.drew (isNat_of_blk KG.out hcap hcapm) (by omega) ⟨kR.tab, kR.max⟩)).mono ?_
  rintro e w3 ⟨rfl, hb3⟩
  have hb4 : Below W.heap.size W w3 := ⟨hb3.os, hb3.tape, hb3.output, hb3.size, hb3.block⟩
  have HB4 := Lib.hid hb4
  have k10' : Boxed w3 b10 4 _ := bx_below k10 hb4 k10.lt
  have K9 := Lib.hid (bx_below k9 hb4 k9.lt)
  have K10 := Lib.hid k10'
  have KG3 := Lib.hid (KG.out.below hb4 KG.out.lt)
  have e10 := k10'.cell
  have f10 := k10'.frozen
  clear hb3 hb4 x9' x5' k10' e9 e5
  gi_wp2
  refine stage_post (isSame_below HB4.out (fun _ h => h.1)) ?_
  change wpStage _ _ _ _ _ _ _ _ (1 + 1) _ _ _
  refine stage_reads [3] 1 _ _ (by kernel_rfl) ?_
  change wpQuietIn _ _ _ _ (fun W' => ∃ x : SameAt W (fun k => k < W.heap.size ∧ k ≠ b10), W' = x.W) _ _ _
  simp only [pick_cons, pick_nil, List.getElem?_cons_zero, List.getElem?_cons_succ, Option.elim_some]
  repeat (gi_big_quiet_step (fail))
  refine wpQuietIn_nil ?_
  refine stage_one 4 (by kernel_rfl) rfl ?_
  gi_wp2
  refine stage_post (isSame_of fun k hk => (Below.heap_setCell _ _ _ k hk.2).trans (HB4.out.block k hk.1)) ?_
  refine stage_done (by kernel_rfl) ?_
  gi_wp2
  go_end0
  refine ⟨rfl, ⟨g, cap, rest, hg, bx_far K9.out (by intro e; exact HNE.out.2.1 e) _, ?_⟩, ?_, ?_, ?_⟩
  · exact isNat_of_blk (KG3.out.far (by intro e; dsimp only at e; omega) _) hcap hcapm
  · have h2 := Boxed.set (.bool (decide (Lib.nDigits (q * q) ≤ 4000))) K10.out
    have e : decide ((Lib.nDigits (q * q) : Int) ≤ 4000) = decide (Lib.nDigits (q * q) ≤ 4000) := by
      by_cases h : Lib.nDigits (q * q) ≤ 4000
      · rw [decide_eq_true h, decide_eq_true (by omega)]
      · rw [decide_eq_false h, decide_eq_false (by omega)]
    rw [e]
    exact h2
  · intro n0 h1 h2 h3
    exact ((KB.out n0 h1 h3).trans (HB4.out.mono (by omega))).setCell (p := ⟨b10, 0, none⟩) h2 _
  · intro k h1 h2 h3
    exact ((Below.heap_setCell _ _ _ k h3).trans (HB4.out.block k (by omega))).trans (KH.out k h1 h2)

/-- Limbs lie in no box of another kind. -/
theorem isNat_past {w w' : World} {v v9 v10 : Value} {n b9 b10 : Nat} {t9 t10 : TypeId} (h : IsNat w v n) (h9 : Boxed w b9 t9 v9) (n9 : ∀ z : Int, v9 ≠ .int .u64 z) (h10 : Boxed w b10 t10 v10) (n10 : ∀ z : Int, v10 ≠ .int .u64 z)
    (hF : ∀ k, k < w.heap.size → k ≠ b9 → k ≠ b10 → w'.heap[k]? = w.heap[k]?) (hs : w.heap.size ≤ w'.heap.size) : IsNat w' v n := by
  obtain ⟨A, c, e, h1, h2, h3⟩ := h
  refine ⟨A, c, e, h1, h2, fun h0 => ?_⟩
  obtain ⟨b, o, hA, hlt, hc⟩ := h3 h0
  have hz := U64_get (l := toL n) (j := 0) (by rwa [U64_length] at h0)
  have hc0 := hc 0 _ hz
  have key : ∀ (b1 : Nat) (t1 : TypeId) (v1 : Value), Boxed w b1 t1 v1 → (∀ z : Int, v1 ≠ .int .u64 z) → b ≠ b1 := by
    intro b1 t1 v1 hb hn e
    subst e
    have := Blk.cell (cs := #[v1]) hb (o + 0)
    rw [hc0] at this
    rcases ho : o + 0 with _ | k
    · rw [ho] at this
      simp at this
      exact hn _ this.symm
    · rw [ho] at this
      simp at this
  have hh := hF b hlt (key _ _ _ h9 n9) (key _ _ _ h10 n10)
  exact ⟨b, o, hA, Nat.lt_of_lt_of_le hlt hs, fun j x hx => (SameAt.cell (w := w) (S := fun k => k = b) ⟨w', fun k hk => by rw [hk]; exact hh⟩ rfl (hc j x hx))⟩
theorem limbs_of_nd {n k j : Nat} (h : Lib.nDigits n ≤ k) (hk : k ≤ 9 * j) : (toL n).length ≤ j := limbs_of (Nat.lt_of_lt_of_le (le_of_nDigits h) (pow_le hk))
theorem pow_small {x n : Nat} (h : x ≤ 1) : Lib.nDigits (x ^ n) ≤ 4000 := by
  have h1 : x ^ n ≤ 1 := by
    have : x ^ n ≤ 1 ^ n := Nat.pow_le_pow_left h n
    rwa [Nat.one_pow] at this
  rw [Lib.nDigits_small (by omega)]
  omega
/-- Too many digits on the way. -/
theorem pow_big {o q n : Nat} (ho : 1 ≤ o) (hn : 1 ≤ n) (hq : 2 ≤ q) (h : 4000 < Lib.nDigits q) : ¬ Lib.nDigits (o * q ^ n) ≤ 4000 := by
  have h1 : q ≤ o * q ^ n := by
    have h2 : q ^ 1 ≤ q ^ n := Nat.pow_le_pow_right (by omega) hn
    rw [Nat.pow_one] at h2
    exact Nat.le_trans h2 (Nat.le_mul_of_pos_left _ ho)
  have := nDigits_mono h1
  omega
theorem not_small {a b : Nat} (h : ¬ Lib.nDigits a ≤ 4000) (hb : 0 < b) : ¬ Lib.nDigits (a * b) ≤ 4000 := by
  have := nDigits_mono (Nat.le_mul_of_pos_right a hb)
  omega
theorem pow_odd (o q n : Nat) (h : n % 2 = 1) : o * q ^ n = o * q * (q * q) ^ (n / 2) := by
  conv => lhs; rw [show n = 2 * (n / 2) + 1 by omega]
  rw [Nat.pow_succ, Nat.pow_mul, Nat.pow_two, Nat.mul_assoc, Nat.mul_comm ((q * q) ^ (n / 2)) q]
theorem pow_even (o q n : Nat) (h : n % 2 = 0) : o * q ^ n = o * (q * q) ^ (n / 2) := by
  conv => lhs; rw [show n = 2 * (n / 2) by omega]
  rw [Nat.pow_mul, Nat.pow_two]

set_option maxRecDepth 100000 in
set_option maxHeartbeats 2000000 in
theorem pow_zero (x : Nat) (vx : Value) (w : World) (hx : IsNat w vx x) :
    Calls Tryz.prog 184 #[vx, .int .u64 0, .int .i64 4000] w fun e w' => ∃ v, e = .returned (.tuple #[v, .bool true]) ∧ IsNat w' v 1 ∧ Below w.heap.size w w' := by
  obtain ⟨A, c, rfl, hc, hcm, _⟩ := hx
  refine (callsIn_wide (n := 3)).1 ?_
  have h1 : 1 ≤ 3 := by omega
  refine callsIn_of_wp Tryz.func184 rfl trivial ?_ rfl
  simp only [Tryz.ntmps184, List.size_toArray, List.length_cons, List.length_nil, Nat.reduceAdd, Nat.reduceSub, Array.replicate_succ, Array.replicate_zero, List.push_toArray, List.append_toArray, List.nil_append, List.cons_append]
  gi_wp2
  refine bodyPost_ret (results_tmp2 rfl _ _ _) rfl ?_
  have hb0 := (Below.refl w.heap.size w).alloc (Nat.le_refl _) (.cells #[.int .i64 4000] 3)
  have hb1 := hb0.alloc hb0.size (.cells #[.int .u64 1] 201)
  refine ⟨.slice (some ⟨w.heap.size + 1, 0, none⟩) 1 1, rfl, isNat_cell (by omega) (by decide) ?_ (by simp), hb1⟩
  have := Blk.new (w.alloc (.cells #[.int .i64 4000] 3)) 201 #[.int .u64 1]
  rw [World.size_alloc] at this
  exact this.cell 0

set_option maxRecDepth 100000 in
set_option maxHeartbeats 2000000 in
theorem pow_one (x n : Nat) (vx : Value) (w : World) (hx : IsNat w vx x) (hx1 : x ≤ 1) (hn0 : n ≠ 0) (hn : n < 18446744073709551616) :
    Calls Tryz.prog 184 #[vx, .int .u64 (n : Int), .int .i64 4000] w fun e w' => ∃ v, e = .returned (.tuple #[v, .bool true]) ∧ IsNat w' v (x ^ n) ∧ Below w.heap.size w w' := by
  have HX := Lib.hid hx
  obtain ⟨A, c, rfl, hc, hcm, _⟩ := hx
  have hne : ((n : Int) == 0) = false := by rw [beq_eq_false_iff_ne]; omega
  have hpw : x ^ n = x := by
    rcases (show x = 0 ∨ x = 1 by omega) with rfl | rfl
    · exact Nat.zero_pow (by omega)
    · exact Nat.one_pow n
  rw [hpw]
  have HB0 := Lib.hid ((Below.refl w.heap.size w).alloc (Nat.le_refl _) (.cells #[.int .i64 4000] 3))
  clear hpw hn0
  refine (callsIn_wide (n := 3)).1 ?_
  have h1 : 1 ≤ 3 := by omega
  refine callsIn_of_wp Tryz.func184 rfl trivial ?_ rfl
  simp only [Tryz.ntmps184, List.size_toArray, List.length_cons, List.length_nil, Nat.reduceAdd, Nat.reduceSub, Array.replicate_succ, Array.replicate_zero, List.push_toArray, List.append_toArray, List.nil_append, List.cons_append]
  have TK1 : True := trivial
  have TK2 : True := trivial
  rcases (show x = 0 ∨ x = 1 by omega) with rfl | rfl
  · gi_wp2_with (clear TK1; refine ⟨trivial, ?_⟩; gi_at_call 174; refine (callsIn_wide.2 (zero_any 0 _ _ (HX.out.below HB0.out))).mono ?_; rintro e w1 ⟨rfl, rfl⟩)
    refine ⟨trivial, ?_⟩
    gi_wp2
    refine bodyPost_ret (results_tmp2 rfl _ _ _) rfl ?_
    exact ⟨_, rfl, HX.out.below HB0.out, HB0.out⟩
  · gi_wp2_with (first
      | (clear TK1; refine ⟨trivial, ?_⟩; gi_at_call 174; refine (callsIn_wide.2 (zero_any 1 _ _ (HX.out.below HB0.out))).mono ?_; rintro e w1 ⟨rfl, rfl⟩)
      | (clear TK2; refine ⟨trivial, ?_⟩; gi_at_call 168; refine (callsIn_wide.2 (one_any 1 _ _ (HX.out.below HB0.out))).mono ?_; rintro e w1 ⟨rfl, rfl⟩))
    refine bodyPost_ret (results_tmp2 rfl _ _ _) rfl ?_
    exact ⟨_, rfl, HX.out.below HB0.out, HB0.out⟩

set_option maxRecDepth 100000 in
set_option maxHeartbeats 4000000 in
theorem pow_two (x n : Nat) (vx : Value) (w : World) (hx : IsNat w vx x) (hx2 : 2 ≤ x) (hn0 : 1 ≤ n) (hn : n < 18446744073709551616) (hxd : Lib.nDigits x ≤ 4000) (hr : Res w) :
    Calls Tryz.prog 184 #[vx, .int .u64 (n : Int), .int .i64 4000] w fun e w' => ∃ v, e = .returned (.tuple #[v, .bool (decide (Lib.nDigits (x ^ n) ≤ 4000))]) ∧ (Lib.nDigits (x ^ n) ≤ 4000 → IsNat w' v (x ^ n)) ∧ Below w.heap.size w w' := by
  have HX := Lib.hid hx
  obtain ⟨A, c, rfl, hc, hcm, _⟩ := hx
  have hne : ((n : Int) == 0) = false := by rw [beq_eq_false_iff_ne]; omega
  have hb0 := (Below.refl w.heap.size w).alloc (Nat.le_refl _) (.cells #[.int .i64 4000] 3)
  have b5 : Boxed (w.alloc (.cells #[.int .i64 4000] 3)) w.heap.size 3 (.int .i64 4000) := Boxed.new w _ _
  have HR := Lib.hid hr
  have hsz0 : (w.alloc (.cells #[.int .i64 4000] 3)).heap.size = w.heap.size + 1 := by simp
  have hd0 : decide (x = 0) = false := decide_eq_false (by omega)
  have hd1 : decide (x = 1) = false := decide_eq_false (by omega)
  have HXD := Lib.hid hxd
  have HB0 := Lib.hid hb0
  have HB5 := Lib.hid b5
  clear hb0 b5 hxd hr
  refine (callsIn_wide (n := 4)).1 ?_
  have h1 : 1 ≤ 4 := by omega
  refine callsIn_of_wp Tryz.func184 rfl trivial ?_ rfl
  simp only [Tryz.ntmps184, List.size_toArray, List.length_cons, List.length_nil, Nat.reduceAdd, Nat.reduceSub, Array.replicate_succ, Array.replicate_zero, List.push_toArray, List.append_toArray, List.nil_append, List.cons_append]
  have TK1 : True := trivial
  have TK2 : True := trivial
  generalize hW0 : w.alloc (.cells #[.int .i64 4000] 3) = W0 at HB0 HB5 hsz0
  gi_upto_region 7 with (first
      | (clear TK1; refine ⟨trivial, ?_⟩; gi_at_call 174; refine (callsIn_wide.2 (zero_any x _ _ (HX.out.below HB0.out))).mono ?_; rintro e w1 ⟨rfl, hw1⟩; subst hw1; rw [hd0])
      | (clear TK2; refine ⟨trivial, ?_⟩; gi_at_call 168; refine (callsIn_wide.2 (one_any x _ _ (HX.out.below HB0.out))).mono ?_; rintro e w1 ⟨rfl, hw1⟩; subst hw1; rw [hd1]))
  have q5 : Boxed (((w1.alloc (.cells #[.int .u64 1] 201)).alloc (.cells #[.slice A (toL x).length c] 158)).alloc (.cells #[.bool true] 4)) w.heap.size 3 (.int .i64 4000) := ((HB5.out.alloc _).alloc _).alloc _
  have q1 : Blk (((w1.alloc (.cells #[.int .u64 1] 201)).alloc (.cells #[.slice A (toL x).length c] 158)).alloc (.cells #[.bool true] 4)) (w.heap.size + 1) 201 #[.int .u64 1] := by
    have := ((Blk.new w1 201 #[.int .u64 1]).alloc (.cells #[.slice A (toL x).length c] 158)).alloc (.cells #[.bool true] 4)
    rwa [hsz0] at this
  have q9 : Boxed (((w1.alloc (.cells #[.int .u64 1] 201)).alloc (.cells #[.slice A (toL x).length c] 158)).alloc (.cells #[.bool true] 4)) (w.heap.size + 1 + 1) 158 (.slice A (toL x).length c) := by
    have := (Boxed.new (w1.alloc (.cells #[.int .u64 1] 201)) 158 (.slice A (toL x).length c)).alloc (.cells #[.bool true] 4)
    rwa [World.size_alloc, hsz0] at this
  have q10 : Boxed (((w1.alloc (.cells #[.int .u64 1] 201)).alloc (.cells #[.slice A (toL x).length c] 158)).alloc (.cells #[.bool true] 4)) (w.heap.size + 1 + 1 + 1) 4 (.bool true) := by
    have := Boxed.new ((w1.alloc (.cells #[.int .u64 1] 201)).alloc (.cells #[.slice A (toL x).length c] 158)) 4 (.bool true)
    rwa [World.size_alloc, World.size_alloc, hsz0] at this
  have qB : Below w.heap.size w (((w1.alloc (.cells #[.int .u64 1] 201)).alloc (.cells #[.slice A (toL x).length c] 158)).alloc (.cells #[.bool true] 4)) := ((HB0.out.alloc HB0.out.size _).alloc (by simp; omega) _).alloc (by simp; omega) _
  have qo : IsNat (((w1.alloc (.cells #[.int .u64 1] 201)).alloc (.cells #[.slice A (toL x).length c] 158)).alloc (.cells #[.bool true] 4)) (.slice (some ⟨w.heap.size + 1, 0, none⟩) 1 1) 1 := isNat_cell (by omega) (by decide) (q1.cell 0) q1.lt
  have hlx : (toL x).length ≤ 1000 := limbs_of_nd HXD.out (by omega)
  clear q1
  generalize (((w1.alloc (.cells #[.int .u64 1] 201)).alloc (.cells #[.slice A (toL x).length c] 158)).alloc (.cells #[.bool true] 4)) = W1 at *
  generalize hg5 : w.heap.size = g at *
  clear HB0 HB5 hsz0 hW0
  gi_wp2
  gi_loopw [1, 8] (fun sn so wr => ∃ (m o q : Nat) (vq : Value), sn = .int .u64 (m : Int) ∧ 1 ≤ m ∧ m ≤ n ∧ IsNat wr so o ∧ 1 ≤ o ∧ Lib.nDigits o ≤ 4000 ∧ Boxed wr (g + 1 + 1) 158 vq ∧ IsNat wr vq q ∧ 2 ≤ q ∧ (toL q).length ≤ 1000 ∧ Boxed wr g 3 (.int .i64 4000) ∧ Boxed wr (g + 1 + 1 + 1) 4 (.bool (decide (Lib.nDigits q ≤ 4000))) ∧ x ^ n = o * q ^ m ∧ Below g w wr) (fun sn _ _ => (intOf sn).toNat)
  case atStart =>
    exact ⟨n, 1, x, _, rfl, hn0, Nat.le_refl _, qo, Nat.le_refl _, by rw [Lib.nDigits_small (by omega)]; omega, q9, HX.out.below (by rw [hg5]; exact qB), hx2, hlx, q5, by rw [decide_eq_true HXD.out]; exact q10, by rw [Nat.one_mul], qB⟩
  case round =>
    obtain ⟨m, o, q, vq, rfl, hm1, hmn, ho, ho1, hod, b9, hq, hq2, hql, b5, b10, hpw, hB⟩ := hrel
    clear q5 q9 q10 qB qo hlx
    have hl1 : 1 ≤ 4 := by omega
    obtain ⟨Aq, cq, rfl⟩ : ∃ Aq cq, vq = .slice Aq (toL q).length cq := by obtain ⟨Aq, cq, e, _⟩ := hq; exact ⟨Aq, cq, e⟩
    obtain ⟨Ao, co, rfl⟩ : ∃ Ao co, u8 = .slice Ao (toL o).length co := by obtain ⟨Ao, co, e, _⟩ := ho; exact ⟨Ao, co, e⟩
    have HO := Lib.hid ho
    have HQ := Lib.hid hq
    have HPW := Lib.hid hpw
    have HBX := Lib.hid (And.intro b9 (And.intro b5 b10))
    have HB := Lib.hid hB
    have hol := limbs_of_nd hod (show 4000 ≤ 9 * 1000 by omega)
    have HOD := Lib.hid hod
    have d9 := b9.cell
    have d5 := b5.cell
    have d10 := b10.cell
    have l9 := b9.lt
    have l5 := b5.lt
    have l10 := b10.lt
    have hmx : Tryz.prog.follows .mixedOrders = true := by kernel_rfl
    clear ho hq hpw b9 b5 b10 hB hod
    obtain ⟨fb, hfb⟩ : ∃ fb, decide (Lib.nDigits q ≤ 4000) = fb := ⟨_, rfl⟩
    rw [hfb] at d10 HBX
    have HFB := Lib.hid hfb
    clear hfb
    have hand := and_one_u64 (m : Int) (by omega) (by omega)
    gi_upto_if 27 with fail
    gi_cut [8] from 25 (fun so wc => ∃ (o' : Nat), IsNat wc so o' ∧ 1 ≤ o' ∧ Lib.nDigits o' ≤ 4000 ∧ x ^ n = o' * (q * q) ^ (m / 2) ∧ Boxed wc (g + 1 + 1) 158 (.slice Aq (toL q).length cq) ∧ Boxed wc g 3 (.int .i64 4000) ∧ Boxed wc (g + 1 + 1 + 1) 4 (.bool fb) ∧ IsNat wc (.slice Aq (toL q).length cq) q ∧ (m / 2 = 0 → x ^ n = o') ∧ Below g w wc)
    case first =>
      by_cases hodd : m % 2 = 1
      · have hod1 : ((m : Int) % 2 == 1) = true := by rw [beq_iff_eq]; omega
        have hod2 : (m : Int) % 2 = 1 := by omega
        have TK3 : True := trivial
        gi_upto_region 9 with fail
        refine ⟨trivial, ?_⟩
        gi_at_call 161
        refine (callsIn_wide.2 (mul_any o q _ _ _ HO.out HQ.out (by omega) (by omega))).mono ?_
        rintro e w3 ⟨v3, rfl, ho3, hb3⟩
        obtain ⟨A3, c3, rfl, hc3, hcm3, _⟩ := id ho3
        have HO3 := Lib.hid ho3
        have HB3 := Lib.hid hb3
        have k10 : Boxed w3 (g + 1 + 1 + 1) 4 _ := bx_below HBX.out.2.2 hb3 l10
        have k5 : Boxed w3 g 3 _ := bx_below HBX.out.2.1 hb3 l5
        have k9 : Boxed w3 (g + 1 + 1) 158 _ := bx_below HBX.out.1 hb3 l9
        have HQ3 := Lib.hid (HQ.out.below hb3)
        have hgs : g ≤ wr.heap.size := by rw [← hg5]; exact HB.out.size
        have hB3 : Below g w w3 := HB.out.trans (hb3.mono hgs)
        have HRR := Lib.hid (HR.out.below (by rw [hg5]; exact hB3))
        have HBB := Lib.hid hB3
        have K3 := Lib.hid (And.intro k9 (And.intro k5 k10))
        have hol3 : (toL (o * q)).length ≤ 2000 := Nat.le_trans (toL_mul_len o q) (by omega)
        have e10 := k10.cell
        have e5 := k5.cell
        have hs3 := hb3.size
        clear ho3 hb3 hB3 d9 d10 d5 k9 k5 k10
        gi_upto_region 9 with fail
        have x10' : ∀ X : SameAt w3 (fun k => k < w3.heap.size), X.W.cell? ⟨g + 1 + 1 + 1, 0, none⟩ = _ := fun X => X.cell (by omega) e10
        have x5' : ∀ X : SameAt w3 (fun k => k < w3.heap.size), X.W.cell? ⟨g, 0, none⟩ = _ := fun X => X.cell (by omega) e5
        refine wpIn_stage (IsSame w3 (fun k => k < w3.heap.size)) [0, 1, 2, 3, 5, 6, 7] [] hmx (by kernel_rfl) (isSame_of fun _ _ => rfl) ?_
        change wpStage _ _ _ _ _ _ _ _ (3 + 5) _ _ _
        refine stage_reads [0, 1, 2, 3, 5] 3 _ _ (by kernel_rfl) ?_
        change wpQuietIn _ _ _ _ (fun W' => ∃ x : SameAt w3 (fun k => k < w3.heap.size), W' = x.W) _ _ _
        simp only [pick_cons, pick_nil, List.getElem?_cons_zero, List.getElem?_cons_succ, Option.elim_some]
        cases fb with
        | false =>
          have hqb : 4000 < Lib.nDigits q := by have := of_decide_eq_false HFB.out; omega
          repeat (gi_big_quiet_step (fail))
          refine wpQuietIn_nil ?_
          refine stage_one 4 (by kernel_rfl) rfl ?_
          gi_wp2
          refine ⟨trivial, ?_⟩
          gi_wp2
          refine stage_post (isSame_of fun _ _ => rfl) ?_
          change wpStage _ _ _ _ _ _ _ _ (0 + 2) _ _ _
          refine stage_reads [6, 7] 0 _ _ (by kernel_rfl) ?_
          change wpQuietIn _ _ _ _ (fun W' => ∃ x : SameAt w3 (fun k => k < w3.heap.size), W' = x.W) _ _ _
          simp only [pick_cons, pick_nil, List.getElem?_cons_zero, List.getElem?_cons_succ, Option.elim_some]
          repeat (gi_big_quiet_step (fail))
          refine wpQuietIn_nil ?_
          refine stage_done (by kernel_rfl) ?_
          gi_wp2
          refine bodyPost_ret (results_tmp2 rfl _ _ _) rfl ?_
          have hnot : ¬ Lib.nDigits (x ^ n) ≤ 4000 := by
            rw [HPW.out]
            exact pow_big ho1 hm1 hq2 hqb
          refine ⟨.slice none 0 0, ?_, fun h => absurd h hnot, by rw [hg5]; exact ⟨HBB.out.os, HBB.out.tape, HBB.out.output, HBB.out.size, HBB.out.block⟩⟩
          rw [decide_eq_false hnot]
          rfl
        | true =>
          repeat (gi_big_quiet_step (fail))
          refine wpQuietIn_nil ?_
          refine stage_one 4 (by kernel_rfl) rfl ?_
          gi_wp2
          refine ⟨trivial, ?_⟩
          refine (callsIn_wide.2 (digits_any (o * q) _ w3.drew HO3.out (by omega) ⟨HRR.out.tab, HRR.out.max⟩)).mono ?_
          rintro e w4 ⟨rfl, hb4⟩
          have hb4 : Below w3.heap.size w3 w4 := ⟨hb4.os, hb4.tape, hb4.output, hb4.size, hb4.block⟩
          have HB4 := Lib.hid hb4
          clear hb4
          gi_wp2
          refine stage_post (isSame_below HB4.out (fun _ h => h)) ?_
          change wpStage _ _ _ _ _ _ _ _ (0 + 2) _ _ _
          refine stage_reads [6, 7] 0 _ _ (by kernel_rfl) ?_
          change wpQuietIn _ _ _ _ (fun W' => ∃ x : SameAt w3 (fun k => k < w3.heap.size), W' = x.W) _ _ _
          simp only [pick_cons, pick_nil, List.getElem?_cons_zero, List.getElem?_cons_succ, Option.elim_some]
          repeat (gi_big_quiet_step (fail))
          refine wpQuietIn_nil ?_
          refine stage_done (by kernel_rfl) ?_
          by_cases hbig : Lib.nDigits (o * q) ≤ 4000
          · have hd : decide ((4000 : Int) < (Lib.nDigits (o * q) : Int)) = false := decide_eq_false (by omega)
            gi_wp2
            gi_meet
            case rel =>
              have B4 : Below g w w4 := HBB.out.trans (HB4.out.mono (Nat.le_trans hgs hs3))
              exact ⟨o * q, HO3.out.below HB4.out, Nat.mul_pos ho1 (by omega), hbig, by rw [HPW.out]; exact pow_odd o q m hodd, bx_below K3.out.1 HB4.out K3.out.1.lt, bx_below K3.out.2.1 HB4.out K3.out.2.1.lt, bx_below K3.out.2.2 HB4.out K3.out.2.2.lt, HQ3.out.below HB4.out, fun h => by rw [HPW.out, show m = 1 by omega, Nat.pow_one], B4⟩
          · have hd : decide ((4000 : Int) < (Lib.nDigits (o * q) : Int)) = true := decide_eq_true (by omega)
            gi_wp2
            refine bodyPost_ret (results_tmp2 rfl _ _ _) rfl ?_
            have B4 : Below g w w4 := HBB.out.trans (HB4.out.mono (Nat.le_trans hgs hs3))
            have hnot : ¬ Lib.nDigits (x ^ n) ≤ 4000 := by
              rw [HPW.out, pow_odd o q m hodd]
              exact not_small hbig (Nat.pow_pos (Nat.mul_pos (by omega) (by omega)))
            refine ⟨.slice none 0 0, ?_, fun h => absurd h hnot, by rw [hg5]; exact B4⟩
            rw [decide_eq_false hnot]
            rfl
      · have hod1 : ((m : Int) % 2 == 1) = false := by rw [beq_eq_false_iff_ne]; omega
        have hod2 : ¬ (m : Int) % 2 = 1 := by omega
        gi_wp2
        gi_meet
        case rel => exact ⟨o, HO.out, ho1, HOD.out, by rw [HPW.out]; exact pow_even o q m (by omega), HBX.out.1, HBX.out.2.1, HBX.out.2.2, HQ.out, fun h => by omega, HB.out⟩
    case rest =>
      obtain ⟨o', ho', ho1', hod', hpw', c9, c5, c10, hq', hz, hB'⟩ := hcut
      obtain ⟨Ao', co', rfl, _, _, _⟩ := id ho'
      have HO' := Lib.hid ho'
      have HPW' := Lib.hid hpw'
      have HZ := Lib.hid hz
      have HQ' := Lib.hid hq'
      have HB' := Lib.hid hB'
      have C' := Lib.hid (And.intro c9 (And.intro c5 c10))
      have d9 := c9.cell
      have d5 := c5.cell
      have d10 := c10.cell
      clear ho' hpw' hz hq' hB' c9 c5 c10 HB HQ HO HBX HPW HOD

      by_cases hm2 : m / 2 = 0
      · have hmz : ((m : Int) / 2 == 0) = true := by rw [beq_iff_eq]; omega
        gi_wp2
        refine bodyPost_ret (results_tmp2 rfl _ _ _) rfl ?_
        have hyes : Lib.nDigits (x ^ n) ≤ 4000 := by rw [HZ.out hm2]; exact hod'
        refine ⟨.slice Ao' (toL o').length co', ?_, fun _ => by rw [HZ.out hm2]; exact HO'.out, by rw [hg5]; exact HB'.out⟩
        rw [decide_eq_true hyes]
        rfl
      · have hmz : ((m : Int) / 2 == 0) = false := by rw [beq_eq_false_iff_ne]; omega
        cases fb with
        | false =>
          gi_wp2
          refine bodyPost_ret (results_tmp2 rfl _ _ _) rfl ?_
          have hnot : ¬ Lib.nDigits (x ^ n) ≤ 4000 := by
            have h1 : 4000 < Lib.nDigits q := by have := of_decide_eq_false HFB.out; omega
            have h2 : q ≤ q * q := Nat.le_mul_of_pos_right q (by omega)
            have h3 := nDigits_mono h2
            rw [HPW'.out]
            exact pow_big ho1' (by omega) (by omega) (by omega)
          refine ⟨.slice none 0 0, ?_, fun h => absurd h hnot, by rw [hg5]; exact HB'.out⟩
          rw [decide_eq_false hnot]
          rfl
        | true =>
          have hqd : Lib.nDigits q ≤ 4000 := of_decide_eq_true HFB.out
          have hql' : (toL q).length ≤ 500 := limbs_of_nd hqd (by omega)
          have HQD := Lib.hid hqd
          clear hqd
          gi_wp2
          refine ⟨trivial, ?_⟩
          refine (callsIn_wide.2 (double_any (g + 1 + 1) g (g + 1 + 1 + 1) _ q true wc C'.out.1 HQ'.out (by omega) (by omega) C'.out.2.1 C'.out.2.2 (by omega) (by omega) (by omega) w HR.out (by rw [hg5]; exact HB'.out) (by omega))).mono ?_
          rintro e w5 ⟨rfl, ⟨gq, capq, restq, hgq, hbx9, hnat⟩, hbx10, hBf, hFr⟩
          have hs5 : wc.heap.size ≤ w5.heap.size := (hBf 0 (by omega) (by omega) (by omega)).size
          have k5 : Boxed w5 g 3 (.int .i64 4000) := bx_below C'.out.2.1 (hBf (g + 1) (by omega) (by omega) C'.out.2.1.lt) (by omega)
          have ho5 : IsNat w5 (.slice Ao' (toL o').length co') o' := isNat_past HO'.out C'.out.1 (fun z h => by cases h) C'.out.2.2 (fun z h => by cases h) hFr hs5
          have hB5 : Below g w w5 := HB'.out.trans (hBf g (by omega) (by omega) (Nat.le_of_lt C'.out.2.1.lt))
          gi_wp2
          refine ⟨⟨m / 2, o', q * q, _, by rw [Int.natCast_ediv]; rfl, by omega, by omega, ho5, ho1', hod', hbx9, hnat, ?_, ?_, k5, hbx10, HPW'.out, hB5⟩, ?_⟩
          · exact Nat.le_trans hq2 (Nat.le_mul_of_pos_right q (by omega))
          · exact Nat.le_trans (toL_mul_len q q) (by omega)
          · show ((m : Int) / 2).toNat < ((m : Int)).toNat
            omega

/-- Pow of a number and an exponent that is a uint64, with the house's limit. -/
theorem pow_any (x n : Nat) (vx : Value) (w : World) (hx : IsNat w vx x) (hn : n < 18446744073709551616) (hxd : Lib.nDigits x ≤ 4000) (hr : Res w) :
    Calls Tryz.prog 184 #[vx, .int .u64 (n : Int), .int .i64 4000] w fun e w' => ∃ v, e = .returned (.tuple #[v, .bool (decide (Lib.nDigits (x ^ n) ≤ 4000))]) ∧ (Lib.nDigits (x ^ n) ≤ 4000 → IsNat w' v (x ^ n)) ∧ Below w.heap.size w w' := by
  rcases Nat.eq_zero_or_pos n with rfl | hn0
  · refine (pow_zero x vx w hx).mono ?_
    rintro e w' ⟨v, rfl, h1, h2⟩
    rw [Nat.pow_zero, decide_eq_true (by rw [Lib.nDigits_small (by omega)]; omega)]
    exact ⟨v, rfl, fun _ => h1, h2⟩
  · by_cases hx2 : 2 ≤ x
    · exact pow_two x n vx w hx hx2 hn0 hn hxd hr
    · refine (pow_one x n vx w hx (by omega) (by omega) hn).mono ?_
      rintro e w' ⟨v, rfl, h1, h2⟩
      rw [decide_eq_true (pow_small (by omega))]
      exact ⟨v, rfl, fun _ => h1, h2⟩
end Go.Proofs.YtbfhonhjejeaiaaGreatDoor
namespace Go.Proofs.YtbfhonhjejeaiaaGreatDoor
open Go.RowKit Go.Shelf
open Lim

attribute [local go_sem] Oper.semAt_some

theorem same_row {W : World} {S : Nat → Prop} (X : SameAt W S) {b : Nat} {t : TypeId} {cs : Array Value} (h : Blk W b t cs) (hS : S b) : Blk X.W b t cs := (X.h b hS).trans h
theorem same_cells {W : World} {S : Nat → Prop} {b : Nat} {t : TypeId} {x y z : Value} (h : Blk W b t #[x, y, z]) (hS : S b) :
    (∀ X : SameAt W S, X.W.cell? ⟨b, 0, none⟩ = some x) ∧ (∀ X : SameAt W S, X.W.cell? ⟨b, 1, none⟩ = some y) ∧ (∀ X : SameAt W S, X.W.cell? ⟨b, 2, none⟩ = some z) :=
  ⟨fun X => (cellrow (same_row X h hS) 0 (by simp)).1, fun X => (cellrow (same_row X h hS) 1 (by simp)).1, fun X => (cellrow (same_row X h hS) 2 (by simp)).1⟩
abbrev zF : Obj := .cells #[.bool false, .slice none 0 0, .slice none 0 0] 160
theorem box_res (w : World) (m vn vd : Value) : Blk ((w.alloc (.cells #[m, vn, vd] 160)).alloc zF) w.heap.size 160 #[m, vn, vd] ∧ Blk ((w.alloc (.cells #[m, vn, vd] 160)).alloc zF) (w.heap.size + 1) 160 #[.bool false, .slice none 0 0, .slice none 0 0] ∧
    Below w.heap.size w ((w.alloc (.cells #[m, vn, vd] 160)).alloc zF) ∧ ((w.alloc (.cells #[m, vn, vd] 160)).alloc zF).heap.size = w.heap.size + 2 := by
  refine ⟨(Blk.new w _ _).alloc _, ?_, ((Below.refl _ _).alloc (Nat.le_refl _) _).alloc (by simp) _, by simp⟩
  have := Blk.new (w.alloc (.cells #[m, vn, vd] 160)) 160 #[.bool false, .slice none 0 0, .slice none 0 0]
  rwa [World.size_alloc] at this
theorem box2_res (w : World) (m vn vd m' vn' vd' : Value) : Blk (((w.alloc (.cells #[m, vn, vd] 160)).alloc (.cells #[m', vn', vd'] 160)).alloc zF) w.heap.size 160 #[m, vn, vd] ∧
    Blk (((w.alloc (.cells #[m, vn, vd] 160)).alloc (.cells #[m', vn', vd'] 160)).alloc zF) (w.heap.size + 1) 160 #[m', vn', vd'] ∧
    Blk (((w.alloc (.cells #[m, vn, vd] 160)).alloc (.cells #[m', vn', vd'] 160)).alloc zF) (w.heap.size + 1 + 1) 160 #[.bool false, .slice none 0 0, .slice none 0 0] ∧
    Below w.heap.size w (((w.alloc (.cells #[m, vn, vd] 160)).alloc (.cells #[m', vn', vd'] 160)).alloc zF) ∧ (((w.alloc (.cells #[m, vn, vd] 160)).alloc (.cells #[m', vn', vd'] 160)).alloc zF).heap.size = w.heap.size + 3 := by
  refine ⟨((Blk.new w _ _).alloc _).alloc _, ?_, ?_, (((Below.refl _ _).alloc (Nat.le_refl _) _).alloc (by simp) _).alloc (by simp; omega) _, by simp⟩
  · have := (Blk.new (w.alloc (.cells #[m, vn, vd] 160)) 160 #[m', vn', vd']).alloc zF
    rwa [World.size_alloc] at this
  · have := Blk.new ((w.alloc (.cells #[m, vn, vd] 160)).alloc (.cells #[m', vn', vd'] 160)) 160 #[.bool false, .slice none 0 0, .slice none 0 0]
    rwa [World.size_alloc, World.size_alloc] at this

theorem below_drew {n : Nat} {w W : World} (h : Below n w W) : Below n w W.drew := ⟨h.os, h.tape, h.output, h.size, h.block⟩
theorem below_undrew {n : Nat} {w W : World} (h : Below n W.drew w) : Below n W w := ⟨h.os, h.tape, h.output, h.size, h.block⟩
theorem below_drew3 {n : Nat} {w W : World} (h : Below n W w) : Below n W.drew w := ⟨h.os, h.tape, h.output, h.size, h.block⟩
theorem set3_heap {w : World} {g : Nat} {x y z : Value} (k : Nat) (hk : k ≠ g) : (((w.setCell ⟨g, 0, none⟩ x).setCell ⟨g, 1, none⟩ y).setCell ⟨g, 2, none⟩ z).heap[k]? = w.heap[k]? :=
  ((Below.heap_setCell _ ⟨g, 2, none⟩ _ k hk).trans (Below.heap_setCell _ ⟨g, 1, none⟩ _ k hk)).trans (Below.heap_setCell _ ⟨g, 0, none⟩ _ k hk)

/-- A fraction with its parts as names. -/
theorem isFrac_open {w : World} {v : Value} {q : Rat} (h : IsFrac w v q) : ∃ (b : Bool) (N D : Nat) (A : Option Addr) (c : Nat) (A' : Option Addr) (c' : Nat), v = .agg #[.bool b, .slice A (toL N).length c, .slice A' (toL D).length c'] ∧
    IsNat w (.slice A (toL N).length c) N ∧ IsNat w (.slice A' (toL D).length c') D ∧ Hid (ng q = b ∧ nm q = N ∧ q.den = D) := by
  obtain ⟨A, c, A', c', rfl, h1, h2⟩ := h
  exact ⟨_, _, _, A, c, A', c', rfl, h1, h2, Lib.hid ⟨rfl, rfl, rfl⟩⟩
theorem isFrac_close {w : World} {v : Value} {q : Rat} {b : Bool} {N D : Nat} (h : Hid (ng q = b ∧ nm q = N ∧ q.den = D)) (hp : IsParts w v b N D) : IsFrac w v q := by
  obtain ⟨h1, h2, h3⟩ := h.out
  unfold IsFrac
  rw [h1, h2, h3]
  exact hp

set_option maxRecDepth 100000 in
set_option maxHeartbeats 2000000 in
theorem fneg_any (m : Bool) (n d : Nat) (v : Value) (w : World) (h : IsParts w v m n d) :
    Calls Tryz.prog 176 #[v] w fun e w' => ∃ v', e = .returned v' ∧ IsParts w' v' (!m && !decide (n = 0)) n d ∧ Below w.heap.size w w' := by
  obtain ⟨An, cn, Ad, cd, rfl, hn, hd⟩ := h
  have HN := Lib.hid hn
  have HD := Lib.hid hd
  clear hn hd
  refine (callsIn_wide (n := 3)).1 ?_
  have h1 : 1 ≤ 3 := by omega
  have hmx : Tryz.prog.follows .mixedOrders = true := by kernel_rfl
  refine callsIn_of_wp Tryz.func176 rfl trivial ?_ rfl
  simp only [Tryz.ntmps176, List.size_toArray, List.length_cons, List.length_nil, Nat.reduceAdd, Nat.reduceSub, Array.replicate_succ, Array.replicate_zero, List.push_toArray, List.append_toArray, List.nil_append, List.cons_append]
  gi_upto_region 1 with fail
  obtain ⟨b0, b1, hB, hs⟩ := box_res w (.bool m) (.slice An (toL n).length cn) (.slice Ad (toL d).length cd)
  generalize (w.alloc (.cells #[.bool m, .slice An (toL n).length cn, .slice Ad (toL d).length cd] 160)).alloc zF = W at *
  obtain ⟨x0, x1, x2⟩ := same_cells (S := fun k => k < W.heap.size ∧ k ≠ w.heap.size + 1) b0 ⟨by omega, by omega⟩
  obtain ⟨r0, s0⟩ := cellrow b1 0 (by simp)
  obtain ⟨r1, s1⟩ := cellrow b1 1 (by simp)
  obtain ⟨r2, s2⟩ := cellrow b1 2 (by simp)
  have HB := Lib.hid hB
  have HS := Lib.hid hs
  have HB1 := Lib.hid b1
  clear b0 b1 hB hs
  cases m with
  | true =>
    refine wpIn_stage (IsSame W (fun k => k < W.heap.size ∧ k ≠ w.heap.size + 1)) [0, 1, 2, 3, 4, 5, 7, 8, 9, 10, 11, 12, 13] [] hmx (by kernel_rfl) (isSame_of fun _ _ => rfl) ?_
    change wpStage _ _ _ _ _ _ _ _ (5 + 10) _ _ _
    refine stage_reads [0, 1, 2, 3, 4, 5, 9, 10, 11, 12] 5 _ _ (by kernel_rfl) ?_
    change wpQuietIn _ _ _ _ (fun W' => ∃ x : SameAt W (fun k => k < W.heap.size ∧ k ≠ w.heap.size + 1), W' = x.W) _ _ _
    simp only [pick_cons, pick_nil, List.getElem?_cons_zero, List.getElem?_cons_succ, Option.elim_some]
    repeat (gi_big_quiet_step (fail))
    refine wpQuietIn_nil ?_
    refine stage_one 6 (by kernel_rfl) rfl ?_
    gi_wp2
    refine ⟨trivial, ?_⟩
    gi_wp2
    refine stage_post (isSame_of fun _ _ => rfl) ?_
    change wpStage _ _ _ _ _ _ _ _ (1 + 3) _ _ _
    refine stage_reads [7, 8, 13] 1 _ _ (by kernel_rfl) ?_
    change wpQuietIn _ _ _ _ (fun W' => ∃ x : SameAt W (fun k => k < W.heap.size ∧ k ≠ w.heap.size + 1), W' = x.W) _ _ _
    simp only [pick_cons, pick_nil, List.getElem?_cons_zero, List.getElem?_cons_succ, Option.elim_some]
    repeat (gi_big_quiet_step (fail))
    refine wpQuietIn_nil ?_
    refine stage_one 14 (by kernel_rfl) rfl ?_
    gi_wp2
    refine stage_post (isSame_of fun k hk => set3_heap k hk.2) ?_
    refine stage_done (by kernel_rfl) ?_
    gi_wp2
    have hsz := HS.out
    refine ret_frac rfl rfl (by simp) (set3 HB1.out) ⟨_, rfl, ?_, ?_⟩
    · exact isParts_mk (isNat_set3 (HN.out.below HB.out) HB1.out) (isNat_set3 (HD.out.below HB.out) HB1.out)
    · exact set3_below (g := w.heap.size + 1) (below_drew HB.out) (Nat.le_succ _)
  | false =>
    refine wpIn_stage (IsSame W (fun k => k < W.heap.size ∧ k ≠ w.heap.size + 1)) [0, 1, 2, 3, 4, 5, 7, 8, 9, 10, 11, 12, 13] [] hmx (by kernel_rfl) (isSame_of fun _ _ => rfl) ?_
    change wpStage _ _ _ _ _ _ _ _ (5 + 10) _ _ _
    refine stage_reads [0, 1, 2, 3, 4, 5, 9, 10, 11, 12] 5 _ _ (by kernel_rfl) ?_
    change wpQuietIn _ _ _ _ (fun W' => ∃ x : SameAt W (fun k => k < W.heap.size ∧ k ≠ w.heap.size + 1), W' = x.W) _ _ _
    simp only [pick_cons, pick_nil, List.getElem?_cons_zero, List.getElem?_cons_succ, Option.elim_some]
    repeat (gi_big_quiet_step (fail))
    refine wpQuietIn_nil ?_
    refine stage_one 6 (by kernel_rfl) rfl ?_
    gi_wp2
    refine ⟨trivial, ?_⟩
    refine (callsIn_wide.2 (zero_any n _ W.drew (HN.out.below (below_drew HB.out)))).mono ?_
    rintro e w3 ⟨rfl, rfl⟩
    generalize hz : decide (n = 0) = z
    have HZ := Lib.hid hz
    clear hz
    gi_wp2
    refine stage_post (isSame_of fun _ _ => rfl) ?_
    change wpStage _ _ _ _ _ _ _ _ (1 + 3) _ _ _
    refine stage_reads [7, 8, 13] 1 _ _ (by kernel_rfl) ?_
    change wpQuietIn _ _ _ _ (fun W' => ∃ x : SameAt W (fun k => k < W.heap.size ∧ k ≠ w.heap.size + 1), W' = x.W) _ _ _
    simp only [pick_cons, pick_nil, List.getElem?_cons_zero, List.getElem?_cons_succ, Option.elim_some]
    repeat (gi_big_quiet_step (fail))
    refine wpQuietIn_nil ?_
    refine stage_one 14 (by kernel_rfl) rfl ?_
    gi_wp2
    refine stage_post (isSame_of fun k hk => set3_heap k hk.2) ?_
    refine stage_done (by kernel_rfl) ?_
    gi_wp2
    have hsz := HS.out
    refine ret_frac rfl rfl (by simp) (set3 HB1.out) ⟨_, rfl, ?_, ?_⟩
    · rw [HZ.out, Bool.not_false, Bool.true_and]
      exact isParts_mk (isNat_set3 (HN.out.below HB.out) HB1.out) (isNat_set3 (HD.out.below HB.out) HB1.out)
    · exact set3_below (g := w.heap.size + 1) (below_drew HB.out) (Nat.le_succ _)

set_option maxRecDepth 100000 in
set_option maxHeartbeats 800000 in
theorem fmul_any (m m' : Bool) (n d n' d' : Nat) (v v' : Value) (w : World) (h : IsParts w v m n d) (h' : IsParts w v' m' n' d') (hd0 : d * d' ≠ 0) (l1 : (toL n).length ≤ 10000) (l2 : (toL d).length ≤ 10000) (l3 : (toL n').length ≤ 10000) (l4 : (toL d').length ≤ 10000) :
    Calls Tryz.prog 126 #[v, v'] w fun e w' => ∃ v2, e = .returned v2 ∧ IsFrac w' v2 (mkQ (m != m') (n * n') (d * d')) ∧ Below w.heap.size w w' := by
  obtain ⟨An, cn, Ad, cd, rfl, hn, hd⟩ := h
  obtain ⟨An', cn', Ad', cd', rfl, hn', hd'⟩ := h'
  have HN := Lib.hid hn
  have HD := Lib.hid hd
  have HN' := Lib.hid hn'
  have HD' := Lib.hid hd'
  have ln := Nat.le_trans (toL_mul_len n n') (show _ ≤ 30000 by omega)
  have ld := Nat.le_trans (toL_mul_len d d') (show _ ≤ 30000 by omega)
  clear hn hd hn' hd'
  refine (callsIn_wide (n := 3)).1 ?_
  have h1 : 1 ≤ 3 := by omega
  have hmx : Tryz.prog.follows .mixedOrders = true := by kernel_rfl
  refine callsIn_of_wp Tryz.func126 rfl trivial ?_ rfl
  simp only [Tryz.ntmps126, List.size_toArray, List.length_cons, List.length_nil, Nat.reduceAdd, Nat.reduceSub, Array.replicate_succ, Array.replicate_zero, List.push_toArray, List.append_toArray, List.nil_append, List.cons_append]
  gi_upto_region 1 with fail
  obtain ⟨b0, b1, b2, hB, hs⟩ := box2_res w (.bool m) (.slice An (toL n).length cn) (.slice Ad (toL d).length cd) (.bool m') (.slice An' (toL n').length cn') (.slice Ad' (toL d').length cd')
  generalize ((w.alloc (.cells #[.bool m, .slice An (toL n).length cn, .slice Ad (toL d).length cd] 160)).alloc (.cells #[.bool m', .slice An' (toL n').length cn', .slice Ad' (toL d').length cd'] 160)).alloc zF = W at *
  obtain ⟨x0, x1, x2⟩ := same_cells (S := fun k => k < W.heap.size ∧ k ≠ w.heap.size + 1 + 1) b0 ⟨by omega, by omega⟩
  obtain ⟨y0, y1, y2⟩ := same_cells (S := fun k => k < W.heap.size ∧ k ≠ w.heap.size + 1 + 1) b1 ⟨by omega, by omega⟩
  have HB := Lib.hid (below_drew hB)
  have HS := Lib.hid hs
  have HB1 := Lib.hid b2
  clear b0 b1 b2 hB hs
  refine wpIn_stage (IsSame W (fun k => k < W.heap.size ∧ k ≠ w.heap.size + 1 + 1)) [0, 1, 2, 3, 4, 5, 6, 7, 8, 10, 11, 12, 13] [] hmx (by kernel_rfl) (isSame_of fun _ _ => rfl) ?_
  change wpStage _ _ _ _ _ _ _ _ (4 + 13) _ _ _
  refine stage_reads [0, 1, 2, 3, 4, 5, 6, 7, 8, 10, 11, 12, 13] 4 _ _ (by kernel_rfl) ?_
  change wpQuietIn _ _ _ _ (fun W' => ∃ x : SameAt W (fun k => k < W.heap.size ∧ k ≠ w.heap.size + 1 + 1), W' = x.W) _ _ _
  simp only [pick_cons, pick_nil, List.getElem?_cons_zero, List.getElem?_cons_succ, Option.elim_some]
  repeat (gi_big_quiet_step (fail))
  refine wpQuietIn_nil ?_
  refine stage_one 9 (by kernel_rfl) rfl ?_
  gi_wp2
  refine ⟨trivial, ?_⟩
  refine (callsIn_wide.2 (mul_any n n' _ _ W.drew (HN.out.below HB.out) (HN'.out.below HB.out) (by omega) (by omega))).mono ?_
  rintro e w3 ⟨v3, rfl, hv3, hb3⟩
  have HV3 := Lib.hid hv3
  have HB3 := Lib.hid (below_undrew hb3)
  clear hv3 hb3
  gi_wp2
  refine stage_post (isSame_below HB3.out (fun k hk => hk.1)) ?_
  refine stage_one 14 (by kernel_rfl) rfl ?_
  gi_wp2
  refine ⟨trivial, ?_⟩
  refine (callsIn_wide.2 (mul_any d d' _ _ w3 (HD.out.below (HB.out.trans ((below_drew3 HB3.out).mono HB.out.size))) (HD'.out.below (HB.out.trans ((below_drew3 HB3.out).mono HB.out.size))) (by omega) (by omega))).mono ?_
  rintro e w4 ⟨v4, rfl, hv4, hb4⟩
  have HV4 := Lib.hid hv4
  have HB4 := Lib.hid hb4
  clear hv4 hb4
  gi_wp2
  refine stage_post (isSame_below (HB3.out.trans (HB4.out.mono HB3.out.size)) (fun k hk => hk.1)) ?_
  refine stage_one 15 (by kernel_rfl) rfl ?_
  gi_wp2
  refine ⟨trivial, ?_⟩
  refine (callsIn_wide.2 (fmake_any (!(m == m')) (n * n') (d * d') _ _ w4 (HV3.out.below HB4.out) HV4.out hd0 ln ld)).mono ?_
  rintro e w5 ⟨v5, rfl, hv5, hb5⟩
  obtain ⟨b5, N5, D5, A5, c5, A5', c5', rfl, hn5, hd5, HP5⟩ := isFrac_open hv5
  clear hv5
  have hb45 : Below W.heap.size W w5 := HB3.out.trans ((HB4.out.mono HB3.out.size).trans (hb5.mono (Nat.le_trans HB3.out.size HB4.out.size)))
  have hsz := HS.out
  obtain ⟨HB5, r0, s0, r1, s1, r2, s2⟩ := res_rows HB1.out hb45 (by omega)
  have HN5 := Lib.hid hn5
  have HD5 := Lib.hid hd5
  have HB45 := Lib.hid hb45
  clear hn5 hd5 hb5 hb45 hsz
  gi_wp2
  refine stage_post (isSame_below HB45.out (fun k hk => hk.1)) ?_
  refine stage_one 16 (by kernel_rfl) rfl ?_
  gi_wp2
  refine stage_post (isSame_of fun k hk => (set3_heap k hk.2).trans (HB45.out.block k hk.1)) ?_
  refine stage_done (by kernel_rfl) ?_
  gi_wp2
  have hsz := HS.out
  refine ret_frac rfl rfl (by simp) (set3 HB5.out) ⟨_, rfl, ?_, ?_⟩
  · exact isFrac_close HP5 (isParts_mk (isNat_set3 HN5.out HB5.out) (isNat_set3 HD5.out HB5.out))
  · exact set3_below (g := w.heap.size + 1 + 1) (HB.out.trans ((below_drew3 HB45.out).mono HB.out.size)) (by omega)
end Go.Proofs.YtbfhonhjejeaiaaGreatDoor
namespace Go.Proofs.YtbfhonhjejeaiaaGreatDoor
open Go.RowKit Go.Shelf
open Lim

/-- The text of a sign, a numerator, a denominator. -/
def textP (b : Bool) (N D : Nat) : List UInt8 := (if b then [45] else []) ++ Lib.decDigits N ++ (if D = 1 then [] else 47 :: Lib.decDigits D)
def outP (b : Bool) (N D : Nat) : List UInt8 × Nat := if maxD < Lib.nDigits N ∨ maxD < Lib.nDigits D then ([], 5) else (textP b N D, 0)
theorem outP_q (q : Rat) : outP (ng q) (nm q) q.den = outQ q := rfl
theorem ba_add (a b : List UInt8) : (⟨a.toArray⟩ : ByteArray) ++ ⟨b.toArray⟩ = ⟨(a ++ b).toArray⟩ := by
  apply ByteArray.ext
  apply Array.toList_inj.1
  rw [ByteArray.data_append]
  simp
theorem rows_of {w w' : World} {n g : Nat} {t : TypeId} {x y z : Value} (h : Blk w g t #[x, y, z]) (hb : Below n w w') (hg : g < n) : w'.cell? ⟨g, 0, none⟩ = some x ∧ w'.cell? ⟨g, 1, none⟩ = some y ∧ w'.cell? ⟨g, 2, none⟩ = some z := by
  have h' := h.below hb hg
  exact ⟨(cellrow h' 0 (by simp)).1, (cellrow h' 1 (by simp)).1, (cellrow h' 2 (by simp)).1⟩

set_option maxRecDepth 100000 in
set_option maxHeartbeats 2000000 in
theorem num_big1 (b : Bool) (N D : Nat) (v : Value) (w : World) (h : IsParts w v b N D) (hr : Res w) (l1 : (toL N).length ≤ 40000) (hbig : 4000 < Lib.nDigits N) :
    Calls Tryz.prog 124 #[v] w fun e w' => e = .returned (.tuple #[.string ⟨#[]⟩, .int .i64 5]) ∧ Below w.heap.size w w' := by
  obtain ⟨An, cn, Ad, cd, rfl, hn, hd⟩ := h
  have hd1 : decide ((4000 : Int) < (Lib.nDigits N : Int)) = true := decide_eq_true (by omega)
  have HB0 := Lib.hid ((Below.refl w.heap.size w).alloc (Nat.le_refl _) (.cells #[.bool b, .slice An (toL N).length cn, .slice Ad (toL D).length cd] 160))
  have HR := Lib.hid hr
  have HN := Lib.hid hn
  clear hn hd hr hbig
  go_enter Tryz.func124, Tryz.ntmps124
  go_wp2_with (go_at_call 166; refine (digits_any N _ _ (HN.out.below HB0.out) l1 (HR.out.below HB0.out)).mono ?_; rintro e w1 ⟨rfl, hb1⟩; have HB1 := Lib.hid hb1; clear hb1)
  refine bodyPost_ret (results_tmp2 rfl _ _ _) rfl ?_
  exact ⟨rfl, HB0.out.trans (HB1.out.mono (by simp))⟩

set_option maxRecDepth 100000 in
set_option maxHeartbeats 2000000 in
theorem num_big2 (b : Bool) (N D : Nat) (v : Value) (w : World) (h : IsParts w v b N D) (hr : Res w) (l1 : (toL N).length ≤ 40000) (l2 : (toL D).length ≤ 40000) (hs : Lib.nDigits N ≤ 4000) (hbig : 4000 < Lib.nDigits D) :
    Calls Tryz.prog 124 #[v] w fun e w' => e = .returned (.tuple #[.string ⟨#[]⟩, .int .i64 5]) ∧ Below w.heap.size w w' := by
  obtain ⟨An, cn, Ad, cd, rfl, hn, hd⟩ := h
  have hd1 : decide ((4000 : Int) < (Lib.nDigits N : Int)) = false := decide_eq_false (by omega)
  have hd2 : decide ((4000 : Int) < (Lib.nDigits D : Int)) = true := decide_eq_true (by omega)
  have HB0 := Lib.hid ((Below.refl w.heap.size w).alloc (Nat.le_refl _) (.cells #[.bool b, .slice An (toL N).length cn, .slice Ad (toL D).length cd] 160))
  have HP := Lib.hid (Blk.new w 160 #[.bool b, .slice An (toL N).length cn, .slice Ad (toL D).length cd])
  have HR := Lib.hid hr
  have HN := Lib.hid hn
  have HD := Lib.hid hd
  have TK1 : True := trivial
  clear hn hd hr hbig hs
  go_enter Tryz.func124, Tryz.ntmps124
  go_wp2_with (first
    | (clear TK1; go_at_call 166; refine (digits_any N _ _ (HN.out.below HB0.out) l1 (HR.out.below HB0.out)).mono ?_; rintro e w1 ⟨rfl, hb1⟩; have HB1 := Lib.hid (HB0.out.trans (hb1.mono (by simp))); obtain ⟨r0, r1, r2⟩ := rows_of HP.out hb1 (by simp); clear hb1)
    | (go_at_call 166; refine (digits_any D _ _ (HD.out.below HB1.out) l2 (HR.out.below HB1.out)).mono ?_; rintro e w2 ⟨rfl, hb2⟩; have HB2 := Lib.hid hb2; clear hb2))
  refine bodyPost_ret (results_tmp2 rfl _ _ _) rfl ?_
  exact ⟨rfl, HB1.out.trans (HB2.out.mono HB1.out.size)⟩

theorem string_is (x : Nat) (vx : Value) (w : World) (hx : IsNat w vx x) (hlx : (toL x).length ≤ 40000) (hr : Res w) (hs : Lib.nDigits x ≤ 4000) :
    Calls Tryz.prog 167 #[vx] w fun e w' => ∃ s : ByteArray, e = .returned (.string s) ∧ Hid (s = ⟨(Lib.decDigits x).toArray⟩) ∧ s.size ≤ 4000 ∧ Below w.heap.size w w' := by
  refine (string_any x vx w hx hlx hr).mono ?_
  rintro e w' ⟨rfl, hb⟩
  refine ⟨_, rfl, Lib.hid rfl, ?_, hb⟩
  show (Lib.decDigits x).toArray.size ≤ 4000
  rw [List.size_toArray, Lib.decDigits_length]
  exact hs

set_option maxRecDepth 100000 in
set_option maxHeartbeats 4000000 in
theorem num_int (b : Bool) (N D : Nat) (v : Value) (w : World) (h : IsParts w v b N D) (hr : Res w) (l1 : (toL N).length ≤ 40000) (l2 : (toL D).length ≤ 40000) (hs : Lib.nDigits N ≤ 4000) (hs2 : Lib.nDigits D ≤ 4000) (h1 : D = 1) :
    Calls Tryz.prog 124 #[v] w fun e w' => e = .returned (.tuple #[.string ⟨((if b then [45] else []) ++ Lib.decDigits N).toArray⟩, .int .i64 0]) ∧ Below w.heap.size w w' := by
  obtain ⟨An, cn, Ad, cd, rfl, hn, hd⟩ := h
  have hd1 : decide ((4000 : Int) < (Lib.nDigits N : Int)) = false := decide_eq_false (by omega)
  have hd2 : decide ((4000 : Int) < (Lib.nDigits D : Int)) = false := decide_eq_false (by omega)
  have ho : decide (D = 1) = true := decide_eq_true h1
  have HB0 := Lib.hid ((Below.refl w.heap.size w).alloc (Nat.le_refl _) (.cells #[.bool b, .slice An (toL N).length cn, .slice Ad (toL D).length cd] 160))
  have HP := Lib.hid (Blk.new w 160 #[.bool b, .slice An (toL N).length cn, .slice Ad (toL D).length cd])
  have HR := Lib.hid hr
  have HN := Lib.hid hn
  have HD := Lib.hid hd
  have HS := Lib.hid hs
  have HS2 := Lib.hid hs2
  have TK1 : True := trivial
  have TK2 : True := trivial
  clear hn hd hr hs hs2 h1
  cases b
  · go_enter Tryz.func124, Tryz.ntmps124
    go_wp2_with (first
      | (clear TK1; go_at_call 166; refine (digits_any N _ _ (HN.out.below HB0.out) l1 (HR.out.below HB0.out)).mono ?_; rintro e w1 ⟨rfl, hb1⟩; have HB1 := Lib.hid (HB0.out.trans (hb1.mono (by simp))); obtain ⟨r0, r1, r2⟩ := rows_of HP.out hb1 (by simp); have HQ1 := Lib.hid (HP.out.below hb1 (by simp)); clear hb1)
      | (go_at_call 166; refine (digits_any D _ _ (HD.out.below HB1.out) l2 (HR.out.below HB1.out)).mono ?_; rintro e w2 ⟨rfl, hb2⟩; have HB2 := Lib.hid (HB1.out.trans (hb2.mono HB1.out.size)); obtain ⟨t0, t1, t2⟩ := rows_of HQ1.out hb2 HQ1.out.lt; have HQ2 := Lib.hid (HQ1.out.below hb2 HQ1.out.lt); clear hb2)
      | (clear TK2; go_at_call 167; refine (string_is N _ _ (HN.out.below HB2.out) l1 (HR.out.below HB2.out) HS.out).mono ?_; rintro e w3 ⟨s3, rfl, HS3, hz3, hb3⟩; have z3 : ¬ 9223372036854775807 < 1 + s3.size := (by omega); have HZ3 := Lib.hid hz3; have HB3 := Lib.hid (HB2.out.trans (hb3.mono HB2.out.size)); obtain ⟨z0, z1, z2⟩ := rows_of HQ2.out hb3 HQ2.out.lt; have HQ3 := Lib.hid (HQ2.out.below hb3 HQ2.out.lt); clear hb3 hz3)
      | (go_at_call 168; refine (one_any D _ _ (HD.out.below HB3.out)).mono ?_; rintro e w4 ⟨rfl, hw4⟩; subst hw4; rw [ho])
      | (go_at_call 167; refine (string_is D _ _ (HD.out.below HB3.out) l2 (HR.out.below HB3.out) HS2.out).mono ?_; rintro e w5 ⟨s5, rfl, HS5, hz5, hb5⟩; have z5 : ¬ 9223372036854775807 < 1 + s5.size := (by omega); have z6 : ¬ 9223372036854775807 < 1 + s3.size + (1 + s5.size) := (by have := HZ3.out; omega); have z7 : ¬ 9223372036854775807 < s3.size + (1 + s5.size) := (by have := HZ3.out; omega); have HB5 := Lib.hid (HB3.out.trans (hb5.mono HB3.out.size)); clear hb5 hz5))
    refine bodyPost_ret (results_tmp2 rfl _ _ _) rfl ?_
    refine ⟨?_, HB3.out⟩
    rw [HS3.out]
    rfl
  · go_enter Tryz.func124, Tryz.ntmps124
    go_wp2_with (first
      | (clear TK1; go_at_call 166; refine (digits_any N _ _ (HN.out.below HB0.out) l1 (HR.out.below HB0.out)).mono ?_; rintro e w1 ⟨rfl, hb1⟩; have HB1 := Lib.hid (HB0.out.trans (hb1.mono (by simp))); obtain ⟨r0, r1, r2⟩ := rows_of HP.out hb1 (by simp); have HQ1 := Lib.hid (HP.out.below hb1 (by simp)); clear hb1)
      | (go_at_call 166; refine (digits_any D _ _ (HD.out.below HB1.out) l2 (HR.out.below HB1.out)).mono ?_; rintro e w2 ⟨rfl, hb2⟩; have HB2 := Lib.hid (HB1.out.trans (hb2.mono HB1.out.size)); obtain ⟨t0, t1, t2⟩ := rows_of HQ1.out hb2 HQ1.out.lt; have HQ2 := Lib.hid (HQ1.out.below hb2 HQ1.out.lt); clear hb2)
      | (clear TK2; go_at_call 167; refine (string_is N _ _ (HN.out.below HB2.out) l1 (HR.out.below HB2.out) HS.out).mono ?_; rintro e w3 ⟨s3, rfl, HS3, hz3, hb3⟩; have z3 : ¬ 9223372036854775807 < 1 + s3.size := (by omega); have HZ3 := Lib.hid hz3; have HB3 := Lib.hid (HB2.out.trans (hb3.mono HB2.out.size)); obtain ⟨z0, z1, z2⟩ := rows_of HQ2.out hb3 HQ2.out.lt; have HQ3 := Lib.hid (HQ2.out.below hb3 HQ2.out.lt); clear hb3 hz3)
      | (go_at_call 168; refine (one_any D _ _ (HD.out.below HB3.out)).mono ?_; rintro e w4 ⟨rfl, hw4⟩; subst hw4; rw [ho])
      | (go_at_call 167; refine (string_is D _ _ (HD.out.below HB3.out) l2 (HR.out.below HB3.out) HS2.out).mono ?_; rintro e w5 ⟨s5, rfl, HS5, hz5, hb5⟩; have z5 : ¬ 9223372036854775807 < 1 + s5.size := (by omega); have z6 : ¬ 9223372036854775807 < 1 + s3.size + (1 + s5.size) := (by have := HZ3.out; omega); have z7 : ¬ 9223372036854775807 < s3.size + (1 + s5.size) := (by have := HZ3.out; omega); have HB5 := Lib.hid (HB3.out.trans (hb5.mono HB3.out.size)); clear hb5 hz5))
    refine bodyPost_ret (results_tmp2 rfl _ _ _) rfl ?_
    refine ⟨?_, HB3.out⟩
    rw [HS3.out]
    exact congrArg (fun x => Ending.returned (.tuple #[.string x, .int .i64 0])) (ba_add [45] (Lib.decDigits N))

set_option maxRecDepth 100000 in
set_option maxHeartbeats 4000000 in
theorem num_frac (b : Bool) (N D : Nat) (v : Value) (w : World) (h : IsParts w v b N D) (hr : Res w) (l1 : (toL N).length ≤ 40000) (l2 : (toL D).length ≤ 40000) (hs : Lib.nDigits N ≤ 4000) (hs2 : Lib.nDigits D ≤ 4000) (h1 : D ≠ 1) :
    Calls Tryz.prog 124 #[v] w fun e w' => e = .returned (.tuple #[.string ⟨((if b then [45] else []) ++ Lib.decDigits N ++ 47 :: Lib.decDigits D).toArray⟩, .int .i64 0]) ∧ Below w.heap.size w w' := by
  obtain ⟨An, cn, Ad, cd, rfl, hn, hd⟩ := h
  have hd1 : decide ((4000 : Int) < (Lib.nDigits N : Int)) = false := decide_eq_false (by omega)
  have hd2 : decide ((4000 : Int) < (Lib.nDigits D : Int)) = false := decide_eq_false (by omega)
  have ho : decide (D = 1) = false := decide_eq_false h1
  have HB0 := Lib.hid ((Below.refl w.heap.size w).alloc (Nat.le_refl _) (.cells #[.bool b, .slice An (toL N).length cn, .slice Ad (toL D).length cd] 160))
  have HP := Lib.hid (Blk.new w 160 #[.bool b, .slice An (toL N).length cn, .slice Ad (toL D).length cd])
  have HR := Lib.hid hr
  have HN := Lib.hid hn
  have HD := Lib.hid hd
  have HS := Lib.hid hs
  have HS2 := Lib.hid hs2
  have TK1 : True := trivial
  have TK2 : True := trivial
  clear hn hd hr hs hs2 h1
  cases b
  · go_enter Tryz.func124, Tryz.ntmps124
    go_wp2_with (first
      | (clear TK1; go_at_call 166; refine (digits_any N _ _ (HN.out.below HB0.out) l1 (HR.out.below HB0.out)).mono ?_; rintro e w1 ⟨rfl, hb1⟩; have HB1 := Lib.hid (HB0.out.trans (hb1.mono (by simp))); obtain ⟨r0, r1, r2⟩ := rows_of HP.out hb1 (by simp); have HQ1 := Lib.hid (HP.out.below hb1 (by simp)); clear hb1)
      | (go_at_call 166; refine (digits_any D _ _ (HD.out.below HB1.out) l2 (HR.out.below HB1.out)).mono ?_; rintro e w2 ⟨rfl, hb2⟩; have HB2 := Lib.hid (HB1.out.trans (hb2.mono HB1.out.size)); obtain ⟨t0, t1, t2⟩ := rows_of HQ1.out hb2 HQ1.out.lt; have HQ2 := Lib.hid (HQ1.out.below hb2 HQ1.out.lt); clear hb2)
      | (clear TK2; go_at_call 167; refine (string_is N _ _ (HN.out.below HB2.out) l1 (HR.out.below HB2.out) HS.out).mono ?_; rintro e w3 ⟨s3, rfl, HS3, hz3, hb3⟩; have z3 : ¬ 9223372036854775807 < 1 + s3.size := (by omega); have HZ3 := Lib.hid hz3; have HB3 := Lib.hid (HB2.out.trans (hb3.mono HB2.out.size)); obtain ⟨z0, z1, z2⟩ := rows_of HQ2.out hb3 HQ2.out.lt; have HQ3 := Lib.hid (HQ2.out.below hb3 HQ2.out.lt); clear hb3 hz3)
      | (go_at_call 168; refine (one_any D _ _ (HD.out.below HB3.out)).mono ?_; rintro e w4 ⟨rfl, hw4⟩; subst hw4; rw [ho])
      | (go_at_call 167; refine (string_is D _ _ (HD.out.below HB3.out) l2 (HR.out.below HB3.out) HS2.out).mono ?_; rintro e w5 ⟨s5, rfl, HS5, hz5, hb5⟩; have z5 : ¬ 9223372036854775807 < 1 + s5.size := (by omega); have z6 : ¬ 9223372036854775807 < 1 + s3.size + (1 + s5.size) := (by have := HZ3.out; omega); have z7 : ¬ 9223372036854775807 < s3.size + (1 + s5.size) := (by have := HZ3.out; omega); have HB5 := Lib.hid (HB3.out.trans (hb5.mono HB3.out.size)); clear hb5 hz5))
    refine bodyPost_ret (results_tmp2 rfl _ _ _) rfl ?_
    refine ⟨?_, HB5.out⟩
    rw [HS3.out, HS5.out]
    exact congrArg (fun x => Ending.returned (.tuple #[.string x, .int .i64 0])) (by rw [ba_add [47], ba_add]; rfl)
  · go_enter Tryz.func124, Tryz.ntmps124
    go_wp2_with (first
      | (clear TK1; go_at_call 166; refine (digits_any N _ _ (HN.out.below HB0.out) l1 (HR.out.below HB0.out)).mono ?_; rintro e w1 ⟨rfl, hb1⟩; have HB1 := Lib.hid (HB0.out.trans (hb1.mono (by simp))); obtain ⟨r0, r1, r2⟩ := rows_of HP.out hb1 (by simp); have HQ1 := Lib.hid (HP.out.below hb1 (by simp)); clear hb1)
      | (go_at_call 166; refine (digits_any D _ _ (HD.out.below HB1.out) l2 (HR.out.below HB1.out)).mono ?_; rintro e w2 ⟨rfl, hb2⟩; have HB2 := Lib.hid (HB1.out.trans (hb2.mono HB1.out.size)); obtain ⟨t0, t1, t2⟩ := rows_of HQ1.out hb2 HQ1.out.lt; have HQ2 := Lib.hid (HQ1.out.below hb2 HQ1.out.lt); clear hb2)
      | (clear TK2; go_at_call 167; refine (string_is N _ _ (HN.out.below HB2.out) l1 (HR.out.below HB2.out) HS.out).mono ?_; rintro e w3 ⟨s3, rfl, HS3, hz3, hb3⟩; have z3 : ¬ 9223372036854775807 < 1 + s3.size := (by omega); have HZ3 := Lib.hid hz3; have HB3 := Lib.hid (HB2.out.trans (hb3.mono HB2.out.size)); obtain ⟨z0, z1, z2⟩ := rows_of HQ2.out hb3 HQ2.out.lt; have HQ3 := Lib.hid (HQ2.out.below hb3 HQ2.out.lt); clear hb3 hz3)
      | (go_at_call 168; refine (one_any D _ _ (HD.out.below HB3.out)).mono ?_; rintro e w4 ⟨rfl, hw4⟩; subst hw4; rw [ho])
      | (go_at_call 167; refine (string_is D _ _ (HD.out.below HB3.out) l2 (HR.out.below HB3.out) HS2.out).mono ?_; rintro e w5 ⟨s5, rfl, HS5, hz5, hb5⟩; have z5 : ¬ 9223372036854775807 < 1 + s5.size := (by omega); have z6 : ¬ 9223372036854775807 < 1 + s3.size + (1 + s5.size) := (by have := HZ3.out; omega); have z7 : ¬ 9223372036854775807 < s3.size + (1 + s5.size) := (by have := HZ3.out; omega); have HB5 := Lib.hid (HB3.out.trans (hb5.mono HB3.out.size)); clear hb5 hz5))
    refine bodyPost_ret (results_tmp2 rfl _ _ _) rfl ?_
    refine ⟨?_, HB5.out⟩
    rw [HS3.out, HS5.out]
    exact congrArg (fun x => Ending.returned (.tuple #[.string x, .int .i64 0])) (by rw [ba_add [47], ba_add [45], ba_add]; rfl)

/-- Num gives a fraction's text. -/
theorem fnumP_any (b : Bool) (N D : Nat) (v : Value) (w : World) (h : IsParts w v b N D) (hr : Res w) (l1 : (toL N).length ≤ 40000) (l2 : (toL D).length ≤ 40000) :
    Calls Tryz.prog 124 #[v] w fun e w' => e = .returned (.tuple #[.string ⟨(outP b N D).1.toArray⟩, .int .i64 ((outP b N D).2 : Int)]) ∧ Below w.heap.size w w' := by
  unfold outP maxD
  by_cases h1 : 4000 < Lib.nDigits N
  · rw [if_pos (.inl h1)]
    exact num_big1 b N D v w h hr l1 h1
  · by_cases h2 : 4000 < Lib.nDigits D
    · rw [if_pos (.inr h2)]
      exact num_big2 b N D v w h hr l1 l2 (by omega) h2
    · rw [if_neg (by omega)]
      unfold textP
      by_cases h3 : D = 1
      · rw [if_pos h3, List.append_nil]
        exact num_int b N D v w h hr l1 l2 (by omega) (by omega) h3
      · rw [if_neg h3]
        exact num_frac b N D v w h hr l1 l2 (by omega) (by omega) h3
theorem fnum_any (q : Rat) (v : Value) (w : World) (h : IsFrac w v q) (hr : Res w) (l1 : (toL (nm q)).length ≤ 40000) (l2 : (toL q.den).length ≤ 40000) :
    Calls Tryz.prog 124 #[v] w fun e w' => e = .returned (.tuple #[.string ⟨(outQ q).1.toArray⟩, .int .i64 ((outQ q).2 : Int)]) ∧ Below w.heap.size w w' :=
  fnumP_any _ _ _ v w h hr l1 l2
end Go.Proofs.YtbfhonhjejeaiaaGreatDoor
namespace Go.Proofs.YtbfhonhjejeaiaaGreatDoor
open Go.RowKit
open Lim


set_option maxHeartbeats 400000 in
theorem rtrim_any (l : List Nat) (A : Option Addr) (n c : Nat) (w : World) (hn : n = l.length) (hl : Sm l) (hc : l.length ≤ c) (hm : c ≤ maxLen) (hr : Row w A (I64 l)) :
    Calls Tryz.prog 178 #[.slice A n c] w fun e w' => e = .returned (.slice A (toL (val l)).length c) ∧ w' = w := by
  unfold maxLen at hm
  subst hn
  go_enter Tryz.func178, Tryz.ntmps178
  go_wp2
  go_loop [0] (fun s => ∃ k : Nat, k ≤ l.length ∧ s = .slice A k c ∧ (∀ i, k ≤ i → l[i]?.getD 0 = 0)) (fun s => match s with | .slice _ n _ => n | _ => 0)
  case atStart => exact ⟨l.length, Nat.le_refl _, rfl, fun i hi => by simp [hi]⟩
  case round =>
    obtain ⟨k, hk, rfl, hz⟩ := hrel
    have HZ := Lib.hid hz
    clear hz
    by_cases h0 : k = 0
    · subst h0
      go_wp2
      go_ret
      exact ⟨by rw [← trim_end hl hk HZ.out (.inl rfl)]; rfl, rfl⟩
    · have hpos : 0 < k := by omega
      have hlt : k - 1 < l.length := by omega
      clear h0
      obtain ⟨b, o, rfl, hb, hcell⟩ := hr (by rw [I64_length]; omega)
      have hcx := hcell (k - 1) _ (I64_get hlt)
      have hx := hl.get (k - 1)
      have HC := Lib.hid hcell
      clear hcell
      generalize hv : l[k - 1]?.getD 0 = x at hcx hx
      have HV := Lib.hid hv
      clear hv
      by_cases hx0 : x = 0
      · subst hx0
        go_wp2
        go_round
        case rel =>
          refine ⟨k - 1, by omega, ?_, fun i hi => ?_⟩
          · rfl
          · by_cases e : i = k - 1
            · subst e; exact HV.out
            · exact HZ.out i (by omega)
        case measure => simp; omega
      · go_wp2
        go_ret
        exact ⟨by rw [← trim_end hl hk HZ.out (.inr (by rw [HV.out]; exact hx0))]; rfl, rfl⟩
end Go.Proofs.YtbfhonhjejeaiaaGreatDoor
namespace Go.Proofs.YtbfhonhjejeaiaaGreatDoor
open Go.RowKit
open Lim

set_option maxRecDepth 100000 in
set_option maxHeartbeats 400000 in
theorem rtimes_own (x y : Nat) (vx vy : Value) (w : World) (hx : IsNatI w vx x) (hy : IsNatI w vy y) (hlx : (toL x).length ≤ 40000) (hly : (toL y).length ≤ 40000) :
    Calls Tryz.prog 140 #[vx, vy] w fun e w' => ∃ v, e = .returned v ∧ w'.ownsRow w.heap.size 3 1 v (toL (x * y)).length (I64 (toL (x * y))) ∧ Below w.heap.size w w' := by
  obtain ⟨A, c, rfl, hc, hcm, hra⟩ := hx
  obtain ⟨A', c', rfl, hc', hcm', hrb⟩ := hy
  obtain ⟨i0, hi, hz0, hz1, hz2⟩ := info_parts Tryz.infoI
  have hmk := fun W => run_makeN (P := Tryz.prog) Tryz.underlying110 hi hz0 hz1 hz2 (n := (toL x).length + (toL y).length) (by omega) (C := ((toL x).length : Int) + ((toL y).length : Int)) (by omega) W
  have hxs := sm_toL x
  have hys := sm_toL y
  go_enter Tryz.func140, Tryz.ntmps140
  go_wp2
  clear hmk
  have hblk0 : Blk (w.alloc (.cells (madeCells #[.int .i64 0] ((toL x).length + (toL y).length)) 3)) w.heap.size 3 (I64 (List.replicate ((toL x).length + (toL y).length) 0)).toArray := by rw [← I64_zeros]; exact Blk.new _ _ _
  go_loopw [6] (fun i wr => ∃ (k : Nat) (O : List Nat), k ≤ (toL x).length ∧ i = .int .i64 (k : Int) ∧ MulOut (toL x) (toL y) k O ∧ Blk wr w.heap.size 3 (I64 O).toArray ∧ Below w.heap.size w wr) (fun i _ => (toL x).length - (intOf i).toNat)
  case atStart => exact ⟨0, _, Nat.zero_le _, rfl, MulOut.start _ _, hblk0, (Below.refl _ _).alloc (Nat.le_refl _) _⟩
  case round =>
    obtain ⟨k, O, hk, rfl, hinv, hblk, hB⟩ := hrel
    clear hblk0
    obtain ⟨wo, rfl⟩ : ∃ wo, wo = wr := ⟨_, rfl⟩
    by_cases hlt : k < (toL x).length
    · obtain ⟨b, o, rfl, hb, hcell⟩ := hra (by rw [I64_length]; omega)
      have hcx0 := hcell k _ (I64_get hlt)
      have hx0 := hxs.get k
      have HI := Lib.hid (hinv.enter ((toL x)[k]?.getD 0))
      have HLV : Hid (∀ (O' : List Nat) (c : Nat), MulInv (val ((toL x).take k) * val (toL y)) (toL y) k ((toL x)[k]?.getD 0) (toL y).length O' ((toL x).length + (toL y).length) c → MulOut (toL x) (toL y) (k + 1) (O'.set (k + (toL y).length) c)) := fun O' c h => MulInv.leave h hlt
      clear hcell hinv
      generalize (toL x)[k]?.getD 0 = x0 at *
      rw [B_val] at hx0
      have HB := Lib.hid hblk
      clear hblk
      go_wp2
      go_loopw [7, 8] (fun s j wr => ∃ (m : Nat) (O' : List Nat) (cy : Nat), m ≤ (toL y).length ∧ j = .int .i64 (m : Int) ∧ s = .int .i64 (cy : Int) ∧ MulInv (val ((toL x).take k) * val (toL y)) (toL y) k x0 m O' ((toL x).length + (toL y).length) cy ∧ Blk wr w.heap.size 3 (I64 O').toArray ∧ Below w.heap.size w wr) (fun _ j _ => (toL y).length - (intOf j).toNat)
      case atStart => exact ⟨0, _, 0, Nat.zero_le _, rfl, rfl, HI.out, HB.out, hB⟩
      case round =>
        obtain ⟨m, O', cy, hm, rfl, rfl, hin, hblk', hB'⟩ := hrel
        clear HI HB
        have hcy := hin.2.2.2.1
        have hOl := hin.2.1
        rw [B_val] at hcy
        by_cases hlq : m < (toL y).length
        · obtain ⟨b2, o2, rfl, hb2, hcell2⟩ := hrb (by rw [I64_length]; omega)
          have hcx2 := (hB'.cell (p := ⟨b, o + k, none⟩) hb).trans hcx0
          have hcy2 := (hB'.cell (p := ⟨b2, o2 + m, none⟩) hb2).trans (hcell2 m _ (I64_get hlq))
          have hy0 := hys.get m
          have ho0 := hin.1.get (k + m)
          have hst1 := hblk'.getI (i := k + m) (by omega)
          have hst2 := hblk'.frozen (k + m)
          have HST := Lib.hid (hin.step (by rw [B_val]; exact hx0) hys hlq (by omega) rfl)
          have hmb := mul_bound (by rw [B_val]; exact hx0) hy0 (by rw [B_val]; exact hcy) ho0
          clear hcell2 hin hOl
          have HB := Lib.hid hblk'
          clear hblk'
          generalize (toL y)[m]?.getD 0 = y0 at *
          generalize O'[k + m]?.getD 0 = o0 at *
          rw [B_val] at hy0 ho0
          have hp0 : (0 : Int) ≤ (x0 : Int) * (y0 : Int) := Int.mul_nonneg (by omega) (by omega)
          have hp1 : (o0 : Int) + (x0 : Int) * (y0 : Int) + (cy : Int) ≤ 1000000000000000000 := by
            rw [mul_cast]; rw [show B * B = 1000000000000000000 from rfl] at hmb; omega
          clear hmb
          go_wp2
          go_quiet (fail)
          go_wp2
          go_roundw
          case rel =>
            refine ⟨m + 1, O'.set (k + m) ((o0 + x0 * y0 + cy) % B), (o0 + x0 * y0 + cy) / B, by omega, by go_num, ?_, HST.out, ?_, (below_drewN' hB' nq).setCell (p := ⟨w.heap.size, k + m, none⟩) (Nat.le_refl _) _⟩
            · rw [mul_cast, divB_cast]
            · rw [mul_cast, modB_cast]; exact Blk.setI (w := wr.drewN nq) HB.out _ _
          case measure => simp [intOf]; omega
        · obtain rfl : m = (toL y).length := by omega
          have hst1 := hblk'.getI (i := k + (toL y).length) (by omega)
          have hst2 := hblk'.frozen (k + (toL y).length)
          have HST := Lib.hid (HLV.out _ _ hin)
          have HB := Lib.hid hblk'
          clear hin hblk' hOl
          go_wp2
          go_roundw
          case rel =>
            exact ⟨k + 1, _, by omega, by go_num, HST.out, HB.out.setI _ _, hB'.setCell (p := ⟨w.heap.size, k + (toL y).length, none⟩) (Nat.le_refl _) _⟩
          case measure => simp [intOf]; omega
    · obtain rfl : k = (toL x).length := by omega
      have hd := hinv.done
      rw [val_toL, val_toL] at hd
      have hrow := hblk.row
      have hO := hinv.1
      have HOL := Lib.hid hinv.2.1
      have HD := Lib.hid hd
      have HBLK := Lib.hid hblk
      clear hinv hblk hd hra hrb
      go_wp2_with (go_at_call 178; refine (rtrim_any O _ _ _ _ HOL.out.symm hO (Nat.le_of_eq HOL.out) (by unfold maxLen; omega) hrow).mono ?_; rintro e w' ⟨rfl, rfl⟩)
      go_ret
      refine ⟨_, rfl, ?_, hB⟩
      rw [HD.out]
      have hpre := toL_prefix hO
      rw [HD.out] at hpre
      refine ⟨by rw [I64_length, Nat.mul_one], .inr ⟨_, _, _, rfl, Nat.le_refl _, HBLK.out, ?_, by unfold maxLen; omega, by rw [List.size_toArray, I64_length, HOL.out, Nat.mul_one], ?_⟩⟩
      · have := toL_len_le_of hO
        rw [HD.out] at this
        rw [← HOL.out]; exact this
      · rw [Nat.mul_one, ← I64_take, hpre]


theorem rtimes_any (x y : Nat) (vx vy : Value) (w : World) (hx : IsNatI w vx x) (hy : IsNatI w vy y) (hlx : (toL x).length ≤ 40000) (hly : (toL y).length ≤ 40000) :
    Calls Tryz.prog 140 #[vx, vy] w fun e w' => ∃ v, e = .returned v ∧ IsNatI w' v (x * y) ∧ Below w.heap.size w w' :=
  (rtimes_own x y vx vy w hx hy hlx hly).mono fun _ _ ⟨v, e, ho, hb⟩ => ⟨v, e, isNatI_of_owns ho, hb⟩
end Go.Proofs.YtbfhonhjejeaiaaGreatDoor
namespace Go.Proofs.YtbfhonhjejeaiaaGreatDoor
open Go.RowKit
open Lim

theorem add_carry {xs ys L : List Nat} {c : Nat} (h : AddInv xs ys xs.length L c) (hlen : ys.length ≤ xs.length) (hx : Lim.Can xs) :
    L ++ (if 0 < c then [c] else []) = toL (val xs + val ys) := by
  obtain ⟨h1, h2, h3, h4⟩ := h
  rw [val_take_all xs _ (Nat.le_refl _), val_take_all ys _ hlen] at h3
  by_cases hc : 0 < c
  · rw [if_pos hc]
    have hc1 : c = 1 := by omega
    subst hc1
    refine toL_of_ge (h1.snoc (by decide)) (by rw [val_snoc, h2, h3]) (fun _ => ?_)
    simp [h2]
    omega
  · have hc0 : c = 0 := by omega
    subst hc0
    rw [if_neg hc, List.append_nil]
    refine toL_of_ge h1 (by simpa using h3) (fun hne => ?_)
    rw [h2]
    have := hx.ge (fun e => hne (by rw [e] at h2; exact List.length_eq_zero_iff.1 (by simpa using h2)))
    omega

set_option maxRecDepth 100000 in
set_option maxHeartbeats 400000 in
theorem add_any (x y : Nat) (vx vy : Value) (w : World) (hx : IsNat w vx x) (hy : IsNat w vy y) (hlx : (toL x).length ≤ 40000) (hly : (toL y).length ≤ 40000) :
    Calls Tryz.prog 164 #[vx, vy] w fun e w' => ∃ v, e = .returned v ∧ IsNat w' v (x + y) ∧ Below w.heap.size w w' := by
  obtain ⟨A, c, rfl, hc, hcm, hra⟩ := hx
  obtain ⟨A', c', rfl, hc', hcm', hrb⟩ := hy
  obtain ⟨i0, hi, hz0, hz1, hz2⟩ := info_parts Tryz.infoU
  go_enter Tryz.func164, Tryz.ntmps164
  go_upto_if 13 with (fail)
  go_cut [0, 1] (fun s0 s1 wx => w = wx ∧ ∃ (p q : Nat) (B B' : Option Addr) (d d' : Nat), p + q = x + y ∧ (toL q).length ≤ (toL p).length ∧ (toL p).length ≤ 40000 ∧ s0 = .slice B (toL p).length d ∧ s1 = .slice B' (toL q).length d' ∧ Row w B (U64 (toL p)) ∧ Row w B' (U64 (toL q)))
  case first =>
    by_cases hlt : (toL x).length < (toL y).length
    · go_wp2
      go_meet
      case rel => exact ⟨rfl, y, x, _, _, _, _, by omega, by omega, by omega, rfl, rfl, hrb, hra⟩
    · go_wp2
      go_meet
      case rel => exact ⟨rfl, x, y, _, _, _, _, by omega, by omega, by omega, rfl, rfl, hra, hrb⟩
  case rest =>
    obtain ⟨rfl, p, q, A, A', c, c', hpq, hqp, hp, rfl, rfl, hra, hrb⟩ := hcut
    have hxs := sm_toL p
    have hys := sm_toL q
    have HPQ := Lib.hid hpq
    clear hpq
    go_wp2_with (at_make; refine wpList_make_own _ rfl _ _ 158 rfl w.heap.size 201 i0 (.int .u64 0) 1 Tryz.underlying158 hi hz0 hz1 .i64 .i64 _ ((toL p).length + 1) rfl rfl (by omega) (by rw [hz2]; omega) (by unfold maxLen; omega) (Nat.le_refl _) ?_; intro w0 hown0 hgrow0)
    have hB0 : Below w.heap.size w w0 := (Below.refl _ _).grown hgrow0 (Nat.le_refl _) (fun k e => by cases e)
    clear hgrow0
    go_loopw [5, 6, 22] (fun v s i wr => ∃ (k : Nat) (L : List Nat) (cy : Nat), k ≤ (toL p).length ∧ i = .int .i64 (k : Int) ∧ s = .int .u64 (cy : Int) ∧ AddInv (toL p) (toL q) k L cy ∧ wr.ownsRow w.heap.size 201 1 v k (U64 L) ∧ Below w.heap.size w wr) (fun _ _ i _ => (toL p).length - (intOf i).toNat)
    case atStart => exact ⟨0, [], 0, Nat.zero_le _, rfl, rfl, AddInv.start _ _, hown0, hB0⟩
    case round =>
      obtain ⟨k, L, cy, hk, rfl, rfl, hinv, hown, hB⟩ := hrel
      clear hown0 hB0
      have hcy := hinv.2.2.2
      by_cases hlt : k < (toL p).length
      · obtain ⟨b, o, rfl, hb, hcell⟩ := hra (by rw [U64_length]; omega)
        have hcx := (hB.cell (p := ⟨b, o + k, none⟩) hb).trans (hcell k _ (U64_get hlt))
        have hx0 := hxs.get k
        clear hcell hra
        by_cases hlq : k < (toL q).length
        · obtain ⟨b2, o2, rfl, hb2, hcell2⟩ := hrb (by rw [U64_length]; omega)
          have hcy2 := (hB.cell (p := ⟨b2, o2 + k, none⟩) hb2).trans (hcell2 k _ (U64_get hlq))
          have hy0 := hys.get k
          clear hcell2 hrb
          have HST := Lib.hid (hinv.step hxs hys rfl)
          clear hinv
          generalize (toL p)[k]?.getD 0 = x0 at *
          generalize (toL q)[k]?.getD 0 = y0 at *
          rw [B_val] at hx0 hy0
          go_wp2_with (at_builtin; refine wpList_append_own _ rfl _ _ 158 rfl w.heap.size 201 i0 (.int .u64 0) 1 8 Tryz.underlying158 hi hz0 hz1 hz2 rfl (by decide) _ _ _ rfl (hown.alloc _) ⟨wr.heap.size, 0, none⟩ 1 1 [.int .u64 (((x0 : Int) + (cy : Int) + (y0 : Int)) % 1000000000)] rfl rfl (cell_one_new _ _ _) (by simp [Value.oneCell']) (by unfold maxLen; omega) (by omega) (by have := hB.size; simp; omega) ?_; intro v' w1 hown' hgrow _)
          have e1 : ((x0 : Int) + (cy : Int) + (y0 : Int)) % 1000000000 = (((x0 + cy + y0) % B : Nat) : Int) := by rw [B_val]; omega
          go_roundw
          case rel => exact ⟨k + 1, _, _, by omega, by go_num, int_eq (by rw [B_val]; omega), HST.out, by rw [← U64_snoc, ← e1]; exact hown', (hB.alloc (by have := hB.size; omega) _).grown hgrow (by have := hB.size; simp; omega) (fun k e => (hown.lt k e).1)⟩
          case measure => simp [intOf]; omega
        · have HST := Lib.hid (hinv.step hxs hys rfl)
          clear hinv
          have hy0 : (toL q)[k]?.getD 0 = 0 := by simp [Nat.le_of_not_lt hlq]
          generalize (toL p)[k]?.getD 0 = x0 at *
          simp only [hy0, Nat.add_zero] at HST
          clear hy0
          rw [B_val] at hx0
          go_wp2_with (at_builtin; refine wpList_append_own _ rfl _ _ 158 rfl w.heap.size 201 i0 (.int .u64 0) 1 8 Tryz.underlying158 hi hz0 hz1 hz2 rfl (by decide) _ _ _ rfl (hown.alloc _) ⟨wr.heap.size, 0, none⟩ 1 1 [.int .u64 (((x0 : Int) + (cy : Int)) % 1000000000)] rfl rfl (cell_one_new _ _ _) (by simp [Value.oneCell']) (by unfold maxLen; omega) (by omega) (by have := hB.size; simp; omega) ?_; intro v' w1 hown' hgrow _)
          have e1 : ((x0 : Int) + (cy : Int)) % 1000000000 = (((x0 + cy) % B : Nat) : Int) := by rw [B_val]; omega
          go_roundw
          case rel => exact ⟨k + 1, _, _, by omega, by go_num, int_eq (by rw [B_val]; omega), HST.out, by rw [← U64_snoc, ← e1]; exact hown', (hB.alloc (by have := hB.size; omega) _).grown hgrow (by have := hB.size; simp; omega) (fun k e => (hown.lt k e).1)⟩
          case measure => simp [intOf]; omega
      · have hkk : k = (toL p).length := by omega
        have HE := Lib.hid (add_carry (hkk ▸ hinv) hqp (can_toL p))
        rw [val_toL, val_toL, HPQ.out] at HE
        clear hinv hra hrb
        obtain rfl := hkk
        by_cases h0 : 0 < cy
        · rw [if_pos h0] at HE
          go_wp2_with (at_builtin; refine wpList_append_own _ rfl _ _ 158 rfl w.heap.size 201 i0 (.int .u64 0) 1 8 Tryz.underlying158 hi hz0 hz1 hz2 rfl (by decide) _ _ _ rfl (hown.alloc _) ⟨wr.heap.size, 0, none⟩ 1 1 [.int .u64 ((cy : Int))] rfl rfl (cell_one_new _ _ _) (by simp [Value.oneCell']) (by unfold maxLen; omega) (by omega) (by have := hB.size; simp; omega) ?_; intro v' w1 hown' hgrow _)
          go_ret
          refine ⟨_, rfl, isNat_of_owns (base := w.heap.size) (e := 201) (n := (toL p).length + 1) ?_, (hB.alloc (by have := hB.size; omega) _).grown hgrow (by have := hB.size; simp; omega) (fun k e => (hown.lt k e).1)⟩
          rw [← HE.out, ← U64_snoc]
          exact hown'
        · rw [if_neg h0, List.append_nil] at HE
          go_wp2
          go_ret
          refine ⟨_, rfl, isNat_of_owns (base := w.heap.size) (e := 201) (n := (toL p).length) ?_, hB⟩
          rw [← HE.out]
          exact hown
end Go.Proofs.YtbfhonhjejeaiaaGreatDoor
namespace Go.Proofs.YtbfhonhjejeaiaaGreatDoor
open Go.RowKit
open Lim

set_option maxRecDepth 100000 in
set_option maxHeartbeats 400000 in
theorem sub_any (x y : Nat) (vx vy : Value) (w : World) (hx : IsNat w vx x) (hy : IsNat w vy y) (hle : y ≤ x) (hlx : (toL x).length ≤ 40000) :
    Calls Tryz.prog 165 #[vx, vy] w fun e w' => ∃ v, e = .returned v ∧ IsNat w' v (x - y) ∧ Below w.heap.size w w' := by
  obtain ⟨A, c, rfl, hc, hcm, hra⟩ := hx
  obtain ⟨A', c', rfl, hc', hcm', hrb⟩ := hy
  obtain ⟨i0, hi, hz0, hz1, hz2⟩ := info_parts Tryz.infoU
  have hlen : (toL y).length ≤ (toL x).length := toL_len_mono hle
  have hmk := fun W => run_makeN (P := Tryz.prog) Tryz.underlying158 hi hz0 hz1 hz2 (n := (toL x).length) (by omega) rfl W
  have hxs := sm_toL x
  have hys := sm_toL y
  have HLE := Lib.hid hle
  clear hle
  go_enter Tryz.func165, Tryz.ntmps165
  go_wp2
  clear hmk
  have hblk0 : Blk (w.alloc (.cells (madeCells #[.int .u64 0] (toL x).length) 201)) w.heap.size 201 (U64 (List.replicate (toL x).length 0)).toArray := by rw [← U64_zeros]; exact Blk.new _ _ _
  go_loopw [6, 15] (fun s i wr => ∃ (k : Nat) (O : List Nat) (cy : Nat), k ≤ (toL x).length ∧ i = .int .i64 (k : Int) ∧ s = .int .u64 (cy : Int) ∧ Sm O ∧ O.length = (toL x).length ∧ SubInv (toL x) (toL y) k (O.take k) cy ∧ Blk wr w.heap.size 201 (U64 O).toArray ∧ Below w.heap.size w wr) (fun _ i _ => (toL x).length - (intOf i).toNat)
  case atStart => exact ⟨0, _, 0, Nat.zero_le _, rfl, rfl, Sm.zeros _, by simp, by simpa using SubInv.start _ _, hblk0, (Below.refl _ _).alloc (Nat.le_refl _) _⟩
  case round =>
    obtain ⟨k, O, cy, hk, rfl, rfl, hO, hOl, hinv, hblk, hB⟩ := hrel
    clear hblk0
    have hcy := hinv.2.2.2
    by_cases hlt : k < (toL x).length
    · obtain ⟨b, o, rfl, hb, hcell⟩ := hra (by rw [U64_length]; omega)
      have hcx := (hB.cell (p := ⟨b, o + k, none⟩) hb).trans (hcell k _ (U64_get hlt))
      have hx0 := hxs.get k
      have hst1 := hblk.getU (i := k) (by omega)
      have hst2 := hblk.frozen k
      clear hcell hra
      have HOL := Lib.hid hOl
      have HB := Lib.hid hblk
      clear hOl hblk
      generalize hxe : (toL x)[k]?.getD 0 = x0 at hcx hx0
      rw [B_val] at hx0
      by_cases hlq : k < (toL y).length
      · obtain ⟨b2, o2, rfl, hb2, hcell2⟩ := hrb (by rw [U64_length]; omega)
        have hcy2 := (hB.cell (p := ⟨b2, o2 + k, none⟩) hb2).trans (hcell2 k _ (U64_get hlq))
        have hy0 := hys.get k
        clear hcell2 hrb
        generalize hye : (toL y)[k]?.getD 0 = y0 at hcy2 hy0
        rw [B_val] at hy0
        by_cases hlo : x0 < (cy + y0)
        · have HST := Lib.hid (hinv.no hys (by simpa [hxe, hye] using hlo))
          clear hinv
          simp only [hxe, hye] at HST
          clear hxe  hye
          go_wp2
          have e1 : (x0 : Int) + 1000000000 - ((cy : Int) + (y0 : Int)) = ((x0 + B - (cy + y0) : Nat) : Int) := by rw [B_val]; omega
          go_roundw
          case rel => exact ⟨k + 1, O.set k (x0 + B - (cy + y0)), 1, by omega, by go_num, rfl, hO.set k (by rw [B_val]; omega), by simpa using HOL.out, by rw [take_set_succ _ _ _ (by rw [HOL.out]; exact hlt)]; exact HST.out, by rw [e1]; exact HB.out.setU k _, hB.setCell (p := ⟨w.heap.size, k, none⟩) (Nat.le_refl _) _⟩
          case measure => simp [intOf]; omega
        · have HST := Lib.hid (hinv.yes hxs (by simpa [hxe, hye] using hlo))
          clear hinv
          simp only [hxe, hye] at HST
          clear hxe  hye
          have hlo' : (cy + y0) ≤ x0 := by omega
          clear hlo
          go_wp2
          have e1 : (x0 : Int) - ((cy : Int) + (y0 : Int)) = ((x0 - (cy + y0) : Nat) : Int) := by omega
          go_roundw
          case rel => exact ⟨k + 1, O.set k (x0 - (cy + y0)), 0, by omega, by go_num, rfl, hO.set k (by rw [B_val]; omega), by simpa using HOL.out, by rw [take_set_succ _ _ _ (by rw [HOL.out]; exact hlt)]; exact HST.out, by rw [e1]; exact HB.out.setU k _, hB.setCell (p := ⟨w.heap.size, k, none⟩) (Nat.le_refl _) _⟩
          case measure => simp [intOf]; omega
      · have hye : (toL y)[k]?.getD 0 = 0 := by simp [Nat.le_of_not_lt hlq]
        by_cases hlo : x0 < cy
        · have HST := Lib.hid (hinv.no hys (by simpa [hxe, hye, Nat.add_zero] using hlo))
          clear hinv
          simp only [hxe, hye, Nat.add_zero] at HST
          clear hxe  hye  
          go_wp2
          have e1 : (x0 : Int) + 1000000000 - (cy : Int) = ((x0 + B - cy : Nat) : Int) := by rw [B_val]; omega
          go_roundw
          case rel => exact ⟨k + 1, O.set k (x0 + B - cy), 1, by omega, by go_num, rfl, hO.set k (by rw [B_val]; omega), by simpa using HOL.out, by rw [take_set_succ _ _ _ (by rw [HOL.out]; exact hlt)]; exact HST.out, by rw [e1]; exact HB.out.setU k _, hB.setCell (p := ⟨w.heap.size, k, none⟩) (Nat.le_refl _) _⟩
          case measure => simp [intOf]; omega
        · have HST := Lib.hid (hinv.yes hxs (by simpa [hxe, hye, Nat.add_zero] using hlo))
          clear hinv
          simp only [hxe, hye, Nat.add_zero] at HST
          clear hxe  hye  
          have hlo' : cy ≤ x0 := by omega
          clear hlo
          go_wp2
          have e1 : (x0 : Int) - (cy : Int) = ((x0 - cy : Nat) : Int) := by omega
          go_roundw
          case rel => exact ⟨k + 1, O.set k (x0 - cy), 0, by omega, by go_num, rfl, hO.set k (by rw [B_val]; omega), by simpa using HOL.out, by rw [take_set_succ _ _ _ (by rw [HOL.out]; exact hlt)]; exact HST.out, by rw [e1]; exact HB.out.setU k _, hB.setCell (p := ⟨w.heap.size, k, none⟩) (Nat.le_refl _) _⟩
          case measure => simp [intOf]; omega
    · obtain rfl : k = (toL x).length := by omega
      have ht : O.take (toL x).length = O := List.take_of_length_le (by omega)
      rw [ht] at hinv
      have hdn := hinv.done (by rw [val_toL, val_toL]; exact HLE.out) hlen
      rw [val_toL, val_toL] at hdn
      have hrow := hblk.row
      clear hinv ht hra hrb
      have HOL := Lib.hid hOl
      have HB := Lib.hid hblk
      have HD := Lib.hid hdn
      clear hOl hblk hdn
      go_wp2_with (go_at_call 190; refine (trim_any O _ _ _ _ HOL.out.symm hO (Nat.le_of_eq HOL.out) (by unfold maxLen; omega) hrow).mono ?_; rintro e w' ⟨rfl, rfl⟩)
      go_ret
      refine ⟨_, rfl, ?_, hB⟩
      have := isNat_trim hO hrow (c := (toL x).length) (Nat.le_of_eq HOL.out) (by unfold maxLen; omega) HD.out.2
      rw [HD.out.2]
      exact this
end Go.Proofs.YtbfhonhjejeaiaaGreatDoor
namespace Go.Proofs.YtbfhonhjejeaiaaGreatDoor
open Go.RowKit Go.Shelf
open Lim

set_option maxRecDepth 100000 in
set_option maxHeartbeats 1000000 in
theorem rorder_any (x y : Nat) (vx vy : Value) (w : World) (hx : IsNatI w vx x) (hy : IsNatI w vy y) (hlx : (toL x).length ≤ 100000) (_hly : (toL y).length ≤ 100000) :
    Calls Tryz.prog 137 #[vx, vy] w fun e w' => e = .returned (.int .i64 (sgn x y)) ∧ Below w.heap.size w w' := by
  obtain ⟨A, c, rfl, hc, hcm, hra⟩ := hx
  obtain ⟨A', c', rfl, hc', hcm', hrb⟩ := hy
  by_cases hl : (toL x).length = (toL y).length
  · have hne : ((((toL x).length : Int)) != ((toL y).length : Int)) = false := by rw [bne_eq_false_iff_eq]; omega
    have HTOP := Lib.hid (fun i hi hd hne => sgn_top (x := x) (y := y) (i := i) hl hi hd hne)
    have HEXT := Lib.hid (fun hd => toL_ext (x := x) (y := y) hl hd)
    have HL := Lib.hid hl
    clear hl
    have sx := sm_toL x
    have sy := sm_toL y
    go_enter Tryz.func137, Tryz.ntmps137
    go_wp2
    go_loopw [5] (fun si wr => ∃ k m : Nat, k ≤ (toL x).length ∧ si = .int .i64 ((k : Int) - 1) ∧ (∀ j, k ≤ j → (toL x)[j]?.getD 0 = (toL y)[j]?.getD 0) ∧ wr = w.drewN m) (fun si _ => (intOf si + 1).toNat)
    case atStart => exact ⟨(toL x).length, 0, Nat.le_refl _, rfl, fun j hj => by rw [List.getElem?_eq_none hj, List.getElem?_eq_none (by have := HL.out; omega)], (World.drewN_zero _).symm⟩
    case round =>
      obtain ⟨k, m, hk, rfl, hd, rfl⟩ := hrel
      have HD := Lib.hid hd
      clear hd
      by_cases hk0 : k = 0
      · subst hk0
        have hxy := HEXT.out (fun j _ => HD.out j (Nat.zero_le _))
        have HXY := Lib.hid hxy
        clear hxy
        go_wp2
        go_ret
        exact ⟨ret_eq (int_eq (by rw [HXY.out, sgn_self])), below_drewN' (Below.refl _ _) m⟩
      · have hpos : 0 < k := by omega
        obtain ⟨b, o, rfl, hb, hcell⟩ := hra (by rw [I64_length]; omega)
        obtain ⟨b2, o2, rfl, hb2, hcell2⟩ := hrb (by rw [I64_length]; have := HL.out; omega)
        have hcx : w.cell? ⟨b, o + (k - 1), none⟩ = _ := hcell (k - 1) _ (I64_get (by omega))
        have hcy : w.cell? ⟨b2, o2 + (k - 1), none⟩ = _ := hcell2 (k - 1) _ (I64_get (by have := HL.out; omega))
        have hi1 : (k : Int) - 1 < ((toL x).length : Int) := by omega
        have hi2 : (k : Int) - 1 < ((toL y).length : Int) := by have := HL.out; omega
        have hx0 := sx.get (k - 1)
        have hy0 := sy.get (k - 1)
        have HT := Lib.hid (HTOP.out (k - 1) (by omega) (fun j hj => HD.out j (by omega)))
        clear hcell hcell2 hra hrb hk0
        generalize hxe : (toL x)[k - 1]?.getD 0 = x0 at *
        generalize hye : (toL y)[k - 1]?.getD 0 = y0 at *
        have HE := Lib.hid (And.intro hxe hye)
        clear hxe hye
        by_cases hlt : x0 < y0
        · have hlt' : (x0 : Int) < (y0 : Int) := by omega
          have hs := HT.out (by omega)
          rw [sgn_lt hlt] at hs
          have HS := Lib.hid hs
          clear hs
          go_wp2
          go_quiet (fail)
          go_wp2
          go_ret
          exact ⟨ret_eq (int_eq HS.out), by simp only [World.drewN_drewN]; exact below_drewN' (Below.refl _ _) _⟩
        · have hlt' : ¬ (x0 : Int) < (y0 : Int) := by omega
          by_cases hgt : y0 < x0
          · have hgt' : (y0 : Int) < (x0 : Int) := by omega
            have hs := HT.out (by omega)
            rw [sgn_gt hgt] at hs
            have HS := Lib.hid hs
            clear hs
            go_wp2
            go_quiet (fail)
            go_wp2
            go_quiet (fail)
            go_wp2
            go_ret
            exact ⟨ret_eq (int_eq HS.out), by simp only [World.drewN_drewN]; exact below_drewN' (Below.refl _ _) _⟩
          · have hgt' : ¬ (y0 : Int) < (x0 : Int) := by omega
            have heq : x0 = y0 := by omega
            have HEQ := Lib.hid heq
            clear heq
            go_wp2
            go_quiet (fail)
            go_wp2
            go_quiet (fail)
            go_wp2
            go_roundw
            case rel =>
              refine ⟨k - 1, _, by omega, int_eq (by omega), fun j hj => ?_, by first | (simp only [World.drewN_drewN]; rfl) | rfl⟩
              by_cases e : j = k - 1
              · subst e; rw [HE.out.1, HE.out.2]; exact HEQ.out
              · exact HD.out j (by omega)
            case measure => simp [intOf]; omega
  · have hne : ((((toL x).length : Int)) != ((toL y).length : Int)) = true := by rw [bne_iff_ne]; omega
    have HS := Lib.hid (sgn_len hl)
    clear hra hrb
    by_cases hlt : (toL x).length < (toL y).length
    · have hlt' : ((toL x).length : Int) < ((toL y).length : Int) := by omega
      have hs := HS.out
      rw [sgn_lt hlt] at hs
      have HS2 := Lib.hid hs
      clear hs hl
      go_enter Tryz.func137, Tryz.ntmps137
      go_wp2
      go_ret
      exact ⟨ret_eq (int_eq HS2.out), Below.refl _ _⟩
    · have hlt' : ¬ ((toL x).length : Int) < ((toL y).length : Int) := by omega
      have hs := HS.out
      rw [sgn_gt (by omega)] at hs
      have HS2 := Lib.hid hs
      clear hs hl
      go_enter Tryz.func137, Tryz.ntmps137
      go_wp2
      go_ret
      exact ⟨ret_eq (int_eq HS2.out), Below.refl _ _⟩
end Go.Proofs.YtbfhonhjejeaiaaGreatDoor
namespace Go.Proofs.YtbfhonhjejeaiaaGreatDoor
open Go.RowKit Go.Shelf
open Lim

theorem plus_done {x y k : Nat} {L : List Nat} (h : AddInv (toL x) (toL y) k L 0) (h1 : (toL x).length ≤ k) (h2 : (toL y).length ≤ k) (hk : ∀ n, (toL x).length ≤ n → (toL y).length ≤ n → n < k → B ^ (k - 1) ≤ x + y) : L = toL (x + y) := by
  obtain ⟨hs, hl, hv, _⟩ := h
  rw [val_take_all _ _ h1, val_take_all _ _ h2, val_toL, val_toL, Nat.mul_zero, Nat.add_zero] at hv
  refine toL_of_ge hs hv (fun hne => ?_)
  rw [hl]
  have hk0 : 0 < k := by rw [← hl]; exact List.length_pos_iff.2 hne
  by_cases hx : (toL x).length = k
  · have := toL_ge (n := x) (fun e => by subst e; rw [toL_zero] at hx; simp at hx; omega)
    rw [hx] at this; omega
  · by_cases hy : (toL y).length = k
    · have := toL_ge (n := y) (fun e => by subst e; rw [toL_zero] at hy; simp at hy; omega)
      rw [hy] at this; omega
    · exact hk (k - 1) (by omega) (by omega) (by omega)
theorem plus_carry {x y k c : Nat} {L : List Nat} (h : AddInv (toL x) (toL y) k L c) (h1 : (toL x).length ≤ k) (h2 : (toL y).length ≤ k) (hc : 0 < c) :
    B ^ k ≤ x + y ∧ (k = (toL x).length ∨ k = (toL y).length) := by
  obtain ⟨hs, hl, hv, hc1⟩ := h
  rw [val_take_all _ _ h1, val_take_all _ _ h2, val_toL, val_toL] at hv
  have e : c = 1 := by omega
  subst e
  refine ⟨by omega, ?_⟩
  by_cases hx : k = (toL x).length
  · exact .inl hx
  · by_cases hy : k = (toL y).length
    · exact .inr hy
    · exfalso
      have hx2 := toL_lt x
      have hy2 := toL_lt y
      have px : B ^ (toL x).length ≤ B ^ (k - 1) := Nat.pow_le_pow_right B_pos (by omega)
      have py : B ^ (toL y).length ≤ B ^ (k - 1) := Nat.pow_le_pow_right B_pos (by omega)
      have pk : B ^ k = B ^ (k - 1) * B := by rw [← Nat.pow_succ]; congr 1; omega
      rw [B_val] at pk
      rw [← B_val] at pk
      have : B ^ (k - 1) * 2 ≤ B ^ (k - 1) * B := Nat.mul_le_mul_left _ (by decide)
      omega

set_option maxRecDepth 100000 in
set_option maxHeartbeats 2000000 in
theorem rplus_any (x y : Nat) (vx vy : Value) (w : World) (hx : IsNatI w vx x) (hy : IsNatI w vy y) (hlx : (toL x).length ≤ 40000) (hly : (toL y).length ≤ 40000) :
    Calls Tryz.prog 156 #[vx, vy] w fun e w' => ∃ v, e = .returned v ∧ IsNatI w' v (x + y) ∧ Below w.heap.size w w' := by
  obtain ⟨A, c, rfl, hc, hcm, hra⟩ := hx
  obtain ⟨A', c', rfl, hc', hcm', hrb⟩ := hy
  obtain ⟨i0, hi, hz0, hz1, hz2⟩ := info_parts Tryz.infoI
  have hxs := sm_toL x
  have hys := sm_toL y
  go_enter Tryz.func156, Tryz.ntmps156
  go_wp2
  go_loopw [5, 6, 7] (fun v s i wr => ∃ (k : Nat) (L : List Nat) (cy : Nat), i = .int .i64 (k : Int) ∧ s = .int .i64 (cy : Int) ∧ AddInv (toL x) (toL y) k L cy ∧ k ≤ 40001 ∧ (∀ n, (toL x).length ≤ n → (toL y).length ≤ n → n < k → B ^ (k - 1) ≤ x + y) ∧ wr.ownsRow w.heap.size 3 1 v k (I64 L) ∧ Below w.heap.size w wr) (fun _ _ i _ => 40002 - (intOf i).toNat)
  case atStart => exact ⟨0, [], 0, rfl, rfl, AddInv.start _ _, by omega, fun n _ _ h => absurd h (Nat.not_lt_zero _), World.ownsRow_nil _ _ _ _, Below.refl _ _⟩
  case round =>
    obtain ⟨k, L, cy, rfl, rfl, hinv, hk, hbig, hown, hB⟩ := hrel
    have hcy := hinv.2.2.2
    have HI := Lib.hid hinv
    have HBIG := Lib.hid hbig
    clear hinv hbig
    by_cases hla : k < (toL x).length
    · have hla' : (k : Int) < ((toL x).length : Int) := by omega
      have d1 : decide ((k : Int) < ((toL x).length : Int)) = true := decide_eq_true hla'
      obtain ⟨b, o, rfl, hb, hcell⟩ := hra (by rw [I64_length]; omega)
      have hcx := (hB.cell (p := ⟨b, o + k, none⟩) hb).trans (hcell k _ (I64_get hla))
      have hx0 := hxs.get k
      clear hcell hra
      by_cases hlb : k < (toL y).length
      · have hlb' : (k : Int) < ((toL y).length : Int) := by omega
        obtain ⟨b2, o2, rfl, hb2, hcell2⟩ := hrb (by rw [I64_length]; omega)
        have hcy2 := (hB.cell (p := ⟨b2, o2 + k, none⟩) hb2).trans (hcell2 k _ (I64_get hlb))
        have hy0 := hys.get k
        clear hcell2 hrb
        have HST := Lib.hid (HI.out.step hxs hys rfl)
        generalize (toL x)[k]?.getD 0 = x0 at *
        generalize (toL y)[k]?.getD 0 = y0 at *
        rw [B_val] at hx0 hy0
        go_wp2_with (at_builtin; refine wpList_append_own _ rfl _ _ 110 rfl w.heap.size 3 i0 (.int .i64 0) 1 8 Tryz.underlying110 hi hz0 hz1 hz2 rfl (by decide) _ _ _ rfl (hown.alloc _) ⟨wr.heap.size, 0, none⟩ 1 1 [.int .i64 (((cy : Int) + (x0 : Int) + (y0 : Int)) % 1000000000)] rfl rfl (cell_one_new _ _ _) (by simp [Value.oneCell']) (by unfold maxLen; omega) (by omega) (by have := hB.size; simp; omega) ?_; intro v' w1 hown' hgrow _)
        have e1 : ((cy : Int) + (x0 : Int) + (y0 : Int)) % 1000000000 = (((x0 + cy + y0) % B : Nat) : Int) := by rw [B_val]; omega
        go_roundw
        case rel => exact ⟨k + 1, _, _, by go_num, int_eq (by rw [B_val]; omega), HST.out, by omega, fun n h1 _ h3 => by omega, by rw [← I64_snoc, ← e1]; exact hown', (hB.alloc (by have := hB.size; omega) _).grown hgrow (by have := hB.size; simp; omega) (fun k e => (hown.lt k e).1)⟩
        case measure => simp [intOf]; omega
      · have hlb' : ¬ (k : Int) < ((toL y).length : Int) := by omega
        have HST := Lib.hid (HI.out.step hxs hys rfl)
        have hy0 : (toL y)[k]?.getD 0 = 0 := by simp [Nat.le_of_not_lt hlb]
        generalize (toL x)[k]?.getD 0 = x0 at *
        simp only [hy0, Nat.add_zero] at HST
        clear hy0
        rw [B_val] at hx0
        go_wp2_with (at_builtin; refine wpList_append_own _ rfl _ _ 110 rfl w.heap.size 3 i0 (.int .i64 0) 1 8 Tryz.underlying110 hi hz0 hz1 hz2 rfl (by decide) _ _ _ rfl (hown.alloc _) ⟨wr.heap.size, 0, none⟩ 1 1 [.int .i64 (((cy : Int) + (x0 : Int)) % 1000000000)] rfl rfl (cell_one_new _ _ _) (by simp [Value.oneCell']) (by unfold maxLen; omega) (by omega) (by have := hB.size; simp; omega) ?_; intro v' w1 hown' hgrow _)
        have e1 : ((cy : Int) + (x0 : Int)) % 1000000000 = (((x0 + cy) % B : Nat) : Int) := by rw [B_val]; omega
        go_roundw
        case rel => exact ⟨k + 1, _, _, by go_num, int_eq (by rw [B_val]; omega), HST.out, by omega, fun n h1 _ h3 => by omega, by rw [← I64_snoc, ← e1]; exact hown', (hB.alloc (by have := hB.size; omega) _).grown hgrow (by have := hB.size; simp; omega) (fun k e => (hown.lt k e).1)⟩
        case measure => simp [intOf]; omega
    · have hla' : ¬ (k : Int) < ((toL x).length : Int) := by omega
      have hx0 : (toL x)[k]?.getD 0 = 0 := by simp [Nat.le_of_not_lt hla]
      by_cases hlb : k < (toL y).length
      · have hlb' : (k : Int) < ((toL y).length : Int) := by omega
        obtain ⟨b2, o2, rfl, hb2, hcell2⟩ := hrb (by rw [I64_length]; omega)
        have hcy2 := (hB.cell (p := ⟨b2, o2 + k, none⟩) hb2).trans (hcell2 k _ (I64_get hlb))
        have hy0 := hys.get k
        clear hcell2 hrb
        have HST := Lib.hid (HI.out.step hxs hys rfl)
        generalize (toL y)[k]?.getD 0 = y0 at *
        simp only [hx0, Nat.zero_add] at HST
        clear hx0
        rw [B_val] at hy0
        go_wp2_with (at_builtin; refine wpList_append_own _ rfl _ _ 110 rfl w.heap.size 3 i0 (.int .i64 0) 1 8 Tryz.underlying110 hi hz0 hz1 hz2 rfl (by decide) _ _ _ rfl (hown.alloc _) ⟨wr.heap.size, 0, none⟩ 1 1 [.int .i64 (((cy : Int) + (y0 : Int)) % 1000000000)] rfl rfl (cell_one_new _ _ _) (by simp [Value.oneCell']) (by unfold maxLen; omega) (by omega) (by have := hB.size; simp; omega) ?_; intro v' w1 hown' hgrow _)
        have e1 : ((cy : Int) + (y0 : Int)) % 1000000000 = (((cy + y0) % B : Nat) : Int) := by rw [B_val]; omega
        go_roundw
        case rel => exact ⟨k + 1, _, _, by go_num, int_eq (by rw [B_val]; omega), HST.out, by omega, fun n _ h2 h3 => by omega, by rw [← I64_snoc, ← e1]; exact hown', (hB.alloc (by have := hB.size; omega) _).grown hgrow (by have := hB.size; simp; omega) (fun k e => (hown.lt k e).1)⟩
        case measure => simp [intOf]; omega
      · have hlb' : ¬ (k : Int) < ((toL y).length : Int) := by omega
        by_cases hc0 : 0 < cy
        · have HPC := Lib.hid (plus_carry HI.out (by omega) (by omega) hc0)
          have hk2 : k ≤ 40000 := by rcases HPC.out.2 with h | h <;> omega
          have HST := Lib.hid (HI.out.step hxs hys rfl)
          have hy0 : (toL y)[k]?.getD 0 = 0 := by simp [Nat.le_of_not_lt hlb]
          simp only [hx0, hy0, Nat.zero_add, Nat.add_zero] at HST
          clear hx0 hy0
          have hc0' : (0 : Int) < (cy : Int) := by omega
          go_wp2_with (at_builtin; refine wpList_append_own _ rfl _ _ 110 rfl w.heap.size 3 i0 (.int .i64 0) 1 8 Tryz.underlying110 hi hz0 hz1 hz2 rfl (by decide) _ _ _ rfl (hown.alloc _) ⟨wr.heap.size, 0, none⟩ 1 1 [.int .i64 ((cy : Int) % 1000000000)] rfl rfl (cell_one_new _ _ _) (by simp [Value.oneCell']) (by unfold maxLen; omega) (by omega) (by have := hB.size; simp; omega) ?_; intro v' w1 hown' hgrow _)
          have e1 : (cy : Int) % 1000000000 = ((cy % B : Nat) : Int) := by rw [B_val]; omega
          go_roundw
          case rel => exact ⟨k + 1, _, _, by go_num, int_eq (by rw [B_val]; omega), HST.out, by omega, fun n _ _ _ => HPC.out.1, by rw [← I64_snoc, ← e1]; exact hown', (hB.alloc (by have := hB.size; omega) _).grown hgrow (by have := hB.size; simp; omega) (fun k e => (hown.lt k e).1)⟩
          case measure => simp [intOf]; omega
        · have hc0' : ¬ (0 : Int) < (cy : Int) := by omega
          obtain rfl : cy = 0 := by omega
          have HE := Lib.hid (plus_done HI.out (by omega) (by omega) HBIG.out)
          have hLk := HI.out.2.1
          have HLK := Lib.hid hLk
          clear hx0 hLk
          go_wp2
          go_ret
          refine ⟨_, rfl, isNatI_of_owns (base := w.heap.size) (e := 3) (n := k) ?_, hB⟩
          rw [← HE.out]
          exact hown
end Go.Proofs.YtbfhonhjejeaiaaGreatDoor
