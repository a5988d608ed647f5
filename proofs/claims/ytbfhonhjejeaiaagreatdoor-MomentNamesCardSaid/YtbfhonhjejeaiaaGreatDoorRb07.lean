/- The reference's Minus, scaled, short. limbs.Parse; the reference's Read. The reference's Read. limbs.Form; the reference's Check. frac.Integer, frac.Parse. frac.Parse (printed by mkparse.py). The reference's Check of a natural number. frac.Parse gives the number of a text; nat.Check. -/
import Derived.Test.YtbfhonhjejeaiaaGreatDoorRb06
import Derived.Test.YtbfhonhjejeaiaaGreatDoorRb04
namespace Go.Proofs.YtbfhonhjejeaiaaGreatDoor
open Go.RowKit Go.Shelf
open Lim

set_option maxRecDepth 100000 in
set_option maxHeartbeats 2000000 in
theorem rminus_any (x y : Nat) (vx vy : Value) (w : World) (hx : IsNatI w vx x) (hy : IsNatI w vy y) (hle : y ≤ x) (hlx : (toL x).length ≤ 40000) :
    Calls Tryz.prog 157 #[vx, vy] w fun e w' => ∃ v, e = .returned v ∧ IsNatI w' v (x - y) ∧ Below w.heap.size w w' := by
  obtain ⟨A, c, rfl, hc, hcm, hra⟩ := hx
  obtain ⟨A', c', rfl, hc', hcm', hrb⟩ := hy
  obtain ⟨i0, hi, hz0, hz1, hz2⟩ := info_parts Tryz.infoI
  have hlen : (toL y).length ≤ (toL x).length := toL_len_mono hle
  have hxs := sm_toL x
  have hys := sm_toL y
  have HLE := Lib.hid hle
  clear hle
  go_enter Tryz.func157, Tryz.ntmps157
  go_wp2
  go_loopw [5, 6, 7] (fun v s i wr => ∃ (k : Nat) (L : List Nat) (cy : Nat), i = .int .i64 (k : Int) ∧ s = .int .i64 (cy : Int) ∧ SubInv (toL x) (toL y) k L cy ∧ k ≤ (toL x).length ∧ wr.ownsRow w.heap.size 3 1 v k (I64 L) ∧ Below w.heap.size w wr) (fun _ _ i _ => (toL x).length - (intOf i).toNat)
  case atStart => exact ⟨0, [], 0, rfl, rfl, SubInv.start _ _, Nat.zero_le _, World.ownsRow_nil _ _ _ _, Below.refl _ _⟩
  case round =>
    obtain ⟨k, L, cy, rfl, rfl, hinv, hk, hown, hB⟩ := hrel
    have hcy := hinv.2.2.2
    have HI := Lib.hid hinv
    clear hinv
    by_cases hla : k < (toL x).length
    · have hla' : (k : Int) < ((toL x).length : Int) := by omega
      obtain ⟨b, o, rfl, hb, hcell⟩ := hra (by rw [I64_length]; omega)
      have hcx := (hB.cell (p := ⟨b, o + k, none⟩) hb).trans (hcell k _ (I64_get hla))
      have hx0 := hxs.get k
      clear hcell hra
      by_cases hlb : k < (toL y).length
      · have hlb' : (k : Int) < ((toL y).length : Int) := by omega
        obtain ⟨b2, o2, rfl, hb2, hcell2⟩ := hrb (by rw [I64_length]; omega)
        have hcy2 := (hB.cell (p := ⟨b2, o2 + k, none⟩) hb2).trans (hcell2 k _ (I64_get hlb))
        have hy0 := hys.get k
        clear hcell2 hrb
        have HSY := Lib.hid (fun h => HI.out.yes (i := k) hxs h)
        have HSN := Lib.hid (fun h => HI.out.no (i := k) hys h)
        generalize (toL x)[k]?.getD 0 = x0 at *
        generalize (toL y)[k]?.getD 0 = y0 at *
        rw [B_val] at hx0 hy0
        by_cases hlo : x0 < cy + y0
        · have hlo' : (x0 : Int) - (cy : Int) - (y0 : Int) < 0 := by omega
          have HST := Lib.hid (HSN.out hlo)
          have e1 : (x0 : Int) - (cy : Int) - (y0 : Int) + 1000000000 = ((x0 + B - (cy + y0) : Nat) : Int) := by rw [B_val]; omega
          have HE := Lib.hid e1
          clear e1 hlo
          go_wp2_with (at_builtin; refine wpList_append_own _ rfl _ _ 110 rfl w.heap.size 3 i0 (.int .i64 0) 1 8 Tryz.underlying110 hi hz0 hz1 hz2 rfl (by decide) _ _ _ rfl (hown.alloc _) ⟨wr.heap.size, 0, none⟩ 1 1 [.int .i64 ((x0 : Int) - (cy : Int) - (y0 : Int) + 1000000000)] rfl rfl (cell_one_new _ _ _) (by simp [Value.oneCell']) (by unfold maxLen; omega) (by omega) (by have := hB.size; simp; omega) ?_; intro v' w1 hown' hgrow _)
          go_roundw
          case rel => exact ⟨k + 1, _, 1, by go_num, rfl, HST.out, by omega, by rw [← I64_snoc, ← HE.out]; exact hown', (hB.alloc (by have := hB.size; omega) _).grown hgrow (by have := hB.size; simp; omega) (fun k e => (hown.lt k e).1)⟩
          case measure => simp [intOf]; omega
        · have hlo' : ¬ (x0 : Int) - (cy : Int) - (y0 : Int) < 0 := by omega
          have HST := Lib.hid (HSY.out hlo)
          have e1 : (x0 : Int) - (cy : Int) - (y0 : Int) = ((x0 - (cy + y0) : Nat) : Int) := by omega
          have HE := Lib.hid e1
          clear e1 hlo
          go_wp2_with (at_builtin; refine wpList_append_own _ rfl _ _ 110 rfl w.heap.size 3 i0 (.int .i64 0) 1 8 Tryz.underlying110 hi hz0 hz1 hz2 rfl (by decide) _ _ _ rfl (hown.alloc _) ⟨wr.heap.size, 0, none⟩ 1 1 [.int .i64 ((x0 : Int) - (cy : Int) - (y0 : Int))] rfl rfl (cell_one_new _ _ _) (by simp [Value.oneCell']) (by unfold maxLen; omega) (by omega) (by have := hB.size; simp; omega) ?_; intro v' w1 hown' hgrow _)
          go_roundw
          case rel => exact ⟨k + 1, _, 0, by go_num, rfl, HST.out, by omega, by rw [← I64_snoc, ← HE.out]; exact hown', (hB.alloc (by have := hB.size; omega) _).grown hgrow (by have := hB.size; simp; omega) (fun k e => (hown.lt k e).1)⟩
          case measure => simp [intOf]; omega
      · have hlb' : ¬ (k : Int) < ((toL y).length : Int) := by omega
        have hy0 : (toL y)[k]?.getD 0 = 0 := by simp [Nat.le_of_not_lt hlb]
        have HSY := Lib.hid (fun h => HI.out.yes (i := k) hxs h)
        have HSN := Lib.hid (fun h => HI.out.no (i := k) hys h)
        generalize (toL x)[k]?.getD 0 = x0 at *
        simp only [hy0, Nat.add_zero] at HSY HSN
        clear hy0
        rw [B_val] at hx0
        by_cases hlo : x0 < cy
        · have hlo' : (x0 : Int) - (cy : Int) < 0 := by omega
          have HST := Lib.hid (HSN.out hlo)
          have e1 : (x0 : Int) - (cy : Int) + 1000000000 = ((x0 + B - cy : Nat) : Int) := by rw [B_val]; omega
          have HE := Lib.hid e1
          clear e1 hlo
          go_wp2_with (at_builtin; refine wpList_append_own _ rfl _ _ 110 rfl w.heap.size 3 i0 (.int .i64 0) 1 8 Tryz.underlying110 hi hz0 hz1 hz2 rfl (by decide) _ _ _ rfl (hown.alloc _) ⟨wr.heap.size, 0, none⟩ 1 1 [.int .i64 ((x0 : Int) - (cy : Int) + 1000000000)] rfl rfl (cell_one_new _ _ _) (by simp [Value.oneCell']) (by unfold maxLen; omega) (by omega) (by have := hB.size; simp; omega) ?_; intro v' w1 hown' hgrow _)
          go_roundw
          case rel => exact ⟨k + 1, _, 1, by go_num, rfl, HST.out, by omega, by rw [← I64_snoc, ← HE.out]; exact hown', (hB.alloc (by have := hB.size; omega) _).grown hgrow (by have := hB.size; simp; omega) (fun k e => (hown.lt k e).1)⟩
          case measure => simp [intOf]; omega
        · have hlo' : ¬ (x0 : Int) - (cy : Int) < 0 := by omega
          have HST := Lib.hid (HSY.out hlo)
          have e1 : (x0 : Int) - (cy : Int) = ((x0 - cy : Nat) : Int) := by omega
          have HE := Lib.hid e1
          clear e1 hlo
          go_wp2_with (at_builtin; refine wpList_append_own _ rfl _ _ 110 rfl w.heap.size 3 i0 (.int .i64 0) 1 8 Tryz.underlying110 hi hz0 hz1 hz2 rfl (by decide) _ _ _ rfl (hown.alloc _) ⟨wr.heap.size, 0, none⟩ 1 1 [.int .i64 ((x0 : Int) - (cy : Int))] rfl rfl (cell_one_new _ _ _) (by simp [Value.oneCell']) (by unfold maxLen; omega) (by omega) (by have := hB.size; simp; omega) ?_; intro v' w1 hown' hgrow _)
          go_roundw
          case rel => exact ⟨k + 1, _, 0, by go_num, rfl, HST.out, by omega, by rw [← I64_snoc, ← HE.out]; exact hown', (hB.alloc (by have := hB.size; omega) _).grown hgrow (by have := hB.size; simp; omega) (fun k e => (hown.lt k e).1)⟩
          case measure => simp [intOf]; omega
    · have hla' : ¬ (k : Int) < ((toL x).length : Int) := by omega
      obtain rfl : k = (toL x).length := by omega
      have hdn := HI.out.done (by rw [val_toL, val_toL]; exact HLE.out) hlen
      rw [val_toL, val_toL] at hdn
      have HDN := Lib.hid hdn
      have hsL := HI.out.1
      have HLL := Lib.hid HI.out.2.1
      have HOW := Lib.hid hown
      obtain ⟨A5, c5, rfl⟩ := slice_of_owns hown
      obtain ⟨h0, h1, h2, h3⟩ := row_of_owns hown
      clear hdn hown h0
      go_wp2_with (go_at_call 178; refine (rtrim_any L _ _ _ _ HLL.out.symm hsL (by rw [HLL.out]; exact h1) h2 h3).mono ?_; rintro e w' ⟨rfl, rfl⟩)
      go_ret
      refine ⟨_, rfl, ?_, hB⟩
      rw [HDN.out.2]
      have := isNatI_trim hsL h3 (c := c5) (by rw [HLL.out]; exact h1) h2 HDN.out.2
      exact this

/-- A number times a limb: i limbs are done. -/
def ScInv (xs : List Nat) (d i : Nat) (O : List Nat) (c : Nat) : Prop := Sm O ∧ O.length = xs.length + 1 ∧ val (O.take i) + B ^ i * c = d * val (xs.take i) ∧ c < B
theorem ScInv.start (xs : List Nat) (d : Nat) : ScInv xs d 0 (List.replicate (xs.length + 1) 0) 0 := ⟨Sm.zeros _, by simp, by simp [val], B_pos⟩
theorem ScInv.step {xs : List Nat} {d i c m : Nat} {O : List Nat} (h : ScInv xs d i O c) (hd : d < B) (hx : Sm xs) (hi : i < xs.length) (hm : m = xs[i]?.getD 0 * d + c) : ScInv xs d (i + 1) (O.set i (m % B)) (m / B) := by
  obtain ⟨h1, h2, h3, h4⟩ := h
  have hxi := hx.get i
  have hb := mul_bound hxi hd h4 B_pos
  refine ⟨h1.set _ (Nat.mod_lt _ B_pos), by simp [h2], ?_, Nat.div_lt_of_lt_mul (by omega)⟩
  rw [val_take_succ' (O.set i (m % B)), val_take_succ' xs, List.take_set_of_le (Nat.le_refl _), List.getElem?_set_self (by omega), Nat.pow_succ]
  simp only [Option.getD_some]
  have e := div_mod_B m
  have e2 : B ^ i * m = B ^ i * (m % B) + B ^ i * B * (m / B) := by
    conv => lhs; rw [← e]
    rw [Nat.mul_add, Nat.mul_assoc]
  have e3 : B ^ i * m = d * (B ^ i * xs[i]?.getD 0) + B ^ i * c := by
    rw [hm, Nat.mul_add, Nat.mul_comm (xs[i]?.getD 0) d, ← Nat.mul_assoc, Nat.mul_comm (B ^ i) d, Nat.mul_assoc]
  rw [Nat.mul_add]
  omega
theorem ScInv.done {xs : List Nat} {d c : Nat} {O : List Nat} (h : ScInv xs d xs.length O c) : Sm (O.set xs.length c) ∧ (O.set xs.length c).length = xs.length + 1 ∧ val (O.set xs.length c) = val xs * d := by
  obtain ⟨h1, h2, h3, h4⟩ := h
  refine ⟨h1.set _ h4, by simp [h2], ?_⟩
  have e := val_take_succ' (O.set xs.length c) xs.length
  rw [val_take_all (O.set xs.length c) (xs.length + 1) (by simp [h2]), List.take_set_of_le (Nat.le_refl _), List.getElem?_set_self (by omega)] at e
  simp only [Option.getD_some] at e
  rw [e, h3, val_take_all _ _ (Nat.le_refl _), Nat.mul_comm]

set_option maxRecDepth 100000 in
set_option maxHeartbeats 1000000 in
theorem rscaled_any (x d : Nat) (vx : Value) (w : World) (hx : IsNatI w vx x) (hlx : (toL x).length ≤ 40000) (hd : d < 1000000000) :
    Calls Tryz.prog 204 #[vx, .int .i64 (d : Int)] w fun e w' => ∃ O : List Nat, e = .returned (.slice (some ⟨w.heap.size, 0, none⟩) ((toL x).length + 1) ((toL x).length + 1)) ∧ Sm O ∧ O.length = (toL x).length + 1 ∧ val O = x * d ∧ Blk w' w.heap.size 3 (I64 O).toArray ∧ Below w.heap.size w w' := by
  obtain ⟨A, c, rfl, hc, hcm, hra⟩ := hx
  obtain ⟨i0, hi, hz0, hz1, hz2⟩ := info_parts Tryz.infoI
  have hmk := fun W => run_makeN (P := Tryz.prog) Tryz.underlying110 hi hz0 hz1 hz2 (n := (toL x).length + 1) (by omega) (C := ((toL x).length : Int) + 1) (by omega) W
  have hxs := sm_toL x
  go_enter Tryz.func204, Tryz.ntmps204
  go_wp2
  clear hmk
  have hblk0 : Blk (w.alloc (.cells (madeCells #[.int .i64 0] ((toL x).length + 1)) 3)) w.heap.size 3 (I64 (List.replicate ((toL x).length + 1) 0)).toArray := by rw [← I64_zeros]; exact Blk.new _ _ _
  go_loopw [6, 7] (fun s i wr => ∃ (k : Nat) (O : List Nat) (cy : Nat), k ≤ (toL x).length ∧ i = .int .i64 (k : Int) ∧ s = .int .i64 (cy : Int) ∧ ScInv (toL x) d k O cy ∧ Blk wr w.heap.size 3 (I64 O).toArray ∧ Below w.heap.size w wr) (fun _ i _ => (toL x).length - (intOf i).toNat)
  case atStart => exact ⟨0, _, 0, Nat.zero_le _, rfl, rfl, ScInv.start _ _, hblk0, (Below.refl _ _).alloc (Nat.le_refl _) _⟩
  case round =>
    obtain ⟨k, O, cy, hk, rfl, rfl, hinv, hblk, hB⟩ := hrel
    clear hblk0
    have hcy := hinv.2.2.2
    have hOl := hinv.2.1
    have HI := Lib.hid hinv
    have HB := Lib.hid hblk
    rw [B_val] at hcy
    by_cases hlt : k < (toL x).length
    · obtain ⟨b, o, rfl, hb, hcell⟩ := hra (by rw [I64_length]; omega)
      have hcx := (hB.cell (p := ⟨b, o + k, none⟩) hb).trans (hcell k _ (I64_get hlt))
      have hx0 := hxs.get k
      have HST := Lib.hid (HI.out.step (by rw [B_val]; exact hd) hxs hlt rfl)
      have hst1 := hblk.getI (i := k) (by omega)
      have hst2 := hblk.frozen k
      clear hcell hra hinv hOl hblk
      generalize (toL x)[k]?.getD 0 = x0 at *
      rw [B_val] at hx0
      have hp0 : (0 : Int) ≤ (x0 : Int) * (d : Int) := Int.mul_nonneg (by omega) (by omega)
      have hp1 : (x0 : Int) * (d : Int) ≤ 999999998000000001 := by
        have : x0 * d ≤ 999999999 * 999999999 := Nat.mul_le_mul (by omega) (by omega)
        rw [← Int.natCast_mul]; omega
      have e0 : (x0 : Int) * (d : Int) + (cy : Int) = ((x0 * d + cy : Nat) : Int) := by rw [Int.natCast_add, Int.natCast_mul]
      have HE := Lib.hid e0
      clear e0
      go_wp2
      go_roundw
      case rel =>
        refine ⟨k + 1, O.set k ((x0 * d + cy) % B), (x0 * d + cy) / B, hlt, by go_num, ?_, HST.out, ?_, hB.setCell (p := ⟨w.heap.size, k, none⟩) (Nat.le_refl _) _⟩
        · rw [HE.out, divB_cast]
        · rw [HE.out, modB_cast]; exact HB.out.setI _ _
      case measure => simp [intOf]; omega
    · obtain rfl : k = (toL x).length := by omega
      have hst1 := hblk.getI (i := (toL x).length) (by omega)
      have hst2 := hblk.frozen (toL x).length
      have HD := Lib.hid hinv.done
      clear hinv hblk hra hOl
      go_wp2
      go_ret
      refine ⟨O.set (toL x).length cy, rfl, HD.out.1, HD.out.2.1, by have := HD.out.2.2; rw [val_toL] at this; exact this, HB.out.setI _ _, hB.setCell (p := ⟨w.heap.size, (toL x).length, none⟩) (Nat.le_refl _) _⟩

set_option maxRecDepth 100000 in
set_option maxHeartbeats 1000000 in
theorem rshort_any (x d : Nat) (vx : Value) (w : World) (hx : IsNatI w vx x) (hlx : (toL x).length ≤ 40000) (hd0 : 0 < d) (hd : d < 1000000000) :
    Calls Tryz.prog 203 #[vx, .int .i64 (d : Int)] w fun e w' => ∃ v, e = .returned (.tuple #[v, .int .i64 ((x % d : Nat) : Int)]) ∧ IsNatI w' v (x / d) ∧ Below w.heap.size w w' := by
  obtain ⟨A, c, rfl, hc, hcm, hra⟩ := hx
  obtain ⟨i0, hi, hz0, hz1, hz2⟩ := info_parts Tryz.infoI
  have hmk := fun W => run_makeN (P := Tryz.prog) Tryz.underlying110 hi hz0 hz1 hz2 (n := (toL x).length) (by omega) rfl W
  have hxs := sm_toL x
  go_enter Tryz.func203, Tryz.ntmps203
  go_wp2
  clear hmk
  have hblk0 : Blk (w.alloc (.cells (madeCells #[.int .i64 0] (toL x).length) 3)) w.heap.size 3 (I64 (List.replicate (toL x).length 0)).toArray := by rw [← I64_zeros]; exact Blk.new _ _ _
  go_loopw [7, 8] (fun s i wr => ∃ (k : Nat) (O : List Nat) (r : Nat), k ≤ (toL x).length ∧ i = .int .i64 ((k : Int) - 1) ∧ s = .int .i64 (r : Int) ∧ DivInv (toL x) d k O r ∧ Blk wr w.heap.size 3 (I64 O).toArray ∧ Below w.heap.size w wr) (fun _ i _ => (intOf i + 1).toNat)
  case atStart => exact ⟨(toL x).length, _, 0, Nat.le_refl _, rfl, rfl, DivInv.start _ hd0, hblk0, (Below.refl _ _).alloc (Nat.le_refl _) _⟩
  case round =>
    obtain ⟨k, O, r, hk, rfl, rfl, hinv, hblk, hB⟩ := hrel
    clear hblk0
    have hr := hinv.2.2.2
    have hOl := hinv.2.1
    have HI := Lib.hid hinv
    have HB := Lib.hid hblk
    by_cases hk0 : k = 0
    · subst hk0
      obtain ⟨e1, e2⟩ := hinv.done
      rw [val_toL] at e1 e2
      have hO := hinv.1
      have hrow := hblk.row
      have HE := Lib.hid (And.intro e1 e2)
      have HOL := Lib.hid hOl
      clear hinv hblk hra e1 e2 hOl
      go_wp2_with (go_at_call 178; refine (rtrim_any O _ _ _ _ HOL.out.symm hO (Nat.le_of_eq HOL.out) (by unfold maxLen; omega) hrow).mono ?_; rintro e w' ⟨rfl, rfl⟩)
      go_ret2
      refine ⟨.slice (some ⟨w.heap.size, 0, none⟩) (toL (val O)).length (toL x).length, ?_, ?_, hB⟩
      · rw [← HE.out.2]; rfl
      · have hfin := isNatI_trim hO hrow (c := (toL x).length) (Nat.le_of_eq HOL.out) (by unfold maxLen; omega) HE.out.1
        rw [← HE.out.1] at hfin ⊢
        exact hfin
    · have hlt : k - 1 < (toL x).length := by omega
      obtain ⟨b, o, rfl, hb, hcell⟩ := hra (by rw [I64_length]; omega)
      have hcx := (hB.cell (p := ⟨b, o + (k - 1), none⟩) hb).trans (hcell (k - 1) _ (I64_get hlt))
      have hx0 := hxs.get (k - 1)
      have hIk : DivInv (toL x) d (k - 1 + 1) O r := by rw [show k - 1 + 1 = k by omega]; exact hinv
      have HST := Lib.hid (hIk.step hxs hlt rfl)
      have hst1 := hblk.getI (i := k - 1) (by omega)
      have hst2 := hblk.frozen (k - 1)
      have hpos : 0 < k := by omega
      clear hcell hra hinv hOl hblk hIk hk0
      generalize (toL x)[k - 1]?.getD 0 = x0 at *
      rw [B_val] at hx0
      have HE := Lib.hid (And.intro (quo_cast r x0 d) (rem_cast r x0 d))
      go_wp2
      go_roundw
      case rel =>
        refine ⟨k - 1, O.set (k - 1) ((r * B + x0) / d), (r * B + x0) % d, by omega, int_eq (by omega), ?_, HST.out, ?_, hB.setCell (p := ⟨w.heap.size, k - 1, none⟩) (Nat.le_refl _) _⟩
        · rw [HE.out.2]
        · rw [HE.out.1]; exact HB.out.setI _ _
      case measure => simp [intOf]; omega
end Go.Proofs.YtbfhonhjejeaiaaGreatDoor
namespace Go.Proofs.YtbfhonhjejeaiaaGreatDoor
open Go.RowKit Go.Shelf
open Lim

theorem extract_list (s : ByteArray) (a b : Nat) : (s.extract a b).data.toList = (s.data.toList.take b).drop a := by
  rw [ByteArray.data_extract, Array.toList_extract, List.extract_eq_take_drop, List.drop_take]
theorem size_list (s : ByteArray) : s.size = s.data.toList.length := by
  show s.data.size = _
  rw [Array.length_toList]

set_option maxRecDepth 100000 in
set_option maxHeartbeats 2000000 in
theorem parse_any (s : ByteArray) (w : World) (hd : Dg s.data.toList) (hlen : s.size ≤ 270000) :
    Calls Tryz.prog 172 #[.string s] w fun e w' => ∃ v, e = .returned v ∧ IsNat w' v (dv s.data.toList) ∧ Below w.heap.size w w' := by
  obtain ⟨i0, hi, hz0, hz1, hz2⟩ := info_parts Tryz.infoU
  have HD := Lib.hid hd
  have hsl := size_list s
  have HSL := Lib.hid hsl
  have HST := Lib.hid (ReadInv.start s.data.toList)
  clear hd hsl
  go_enter Tryz.func172, Tryz.ntmps172
  go_wp2
  go_loopw [3, 4, 5, 6] (fun sv se _ _ wr => ∃ (z : Int) (L : List Nat), se = .int .i64 z ∧ z ≤ (s.size : Int) ∧ -9 < z ∧ 9 * (L.length : Int) ≤ (s.size : Int) - z ∧ ReadInv s.data.toList z.toNat L ∧ wr.ownsRow w.heap.size 201 1 sv L.length (U64 L) ∧ Below w.heap.size w wr) (fun _ se _ _ _ => (intOf se + 9).toNat)
  case atStart => exact ⟨(s.size : Int), [], rfl, Int.le_refl _, by omega, by simp, by rw [Int.toNat_natCast, HSL.out]; exact HST.out, World.ownsRow_nil _ _ _ _, Below.refl _ _⟩
  case round =>
    obtain ⟨z, L, rfl, hz1', hz2', hz3, hinv, hown, hB⟩ := hrel
    clear HST
    by_cases hz : 0 < z
    · obtain ⟨e, rfl⟩ : ∃ e : Nat, z = (e : Int) := ⟨z.toNat, by omega⟩
      rw [Int.toNat_natCast] at hinv
      have hel : e ≤ s.data.toList.length := by rw [← HSL.out]; omega
      have he0 : 0 < e := by omega
      have hpiece := extract_list s (e - 9) e
      have hplen : ((s.data.toList.take e).drop (e - 9)).length = e - (e - 9) := by rw [List.length_drop, List.length_take]; omega
      have hpd : Dg ((s.data.toList.take e).drop (e - 9)) := (HD.out.take _).drop _
      have hpok : Lib.parseUintB 64 (s.extract (e - 9) e).data.toList = .ok (dv ((s.data.toList.take e).drop (e - 9))) := by
        rw [hpiece]
        exact chunk_ok hpd (fun h => by rw [h] at hplen; simp at hplen; omega) (by rw [hplen]; omega)
      have hpsz : (s.extract (e - 9) e).size ≤ 9223372036854775806 := by rw [size_list, hpiece, hplen]; omega
      have HPU := Lib.hid (fun W => Tryz.strconv_ParseUint_10_at64_ok (s.extract (e - 9) e) hpsz _ hpok W)
      have HSTP := Lib.hid (hinv.step HD.out he0 hel rfl)
      have hdl : dv ((s.data.toList.take e).drop (e - 9)) < 1000000000 := by
        refine Nat.lt_of_lt_of_le (dv_lt hpd) ?_
        rw [hplen]
        exact Nat.le_trans (Nat.pow_le_pow_right (by omega) (show e - (e - 9) ≤ 9 by omega)) (by decide)
      clear hinv hel hpiece hplen hpd hpok hpsz
      generalize dv ((s.data.toList.take e).drop (e - 9)) = d at *
      have TK1 : True := trivial
      have hesz : (e : Int) ≤ (s.size : Int) := hz1'
      obtain ⟨Av, cvv, rfl⟩ := slice_of_owns hown
      by_cases h9 : 9 ≤ e
      · have hmax : max (0 : Int) ((e : Int) - 9) = (e : Int) - 9 := by omega
        go_upto_region 6 with (clear TK1; go_at_call 202; refine (HPU.out _).mono ?_; rintro e w1 ⟨rfl, hw1⟩; have hb1 : Below wr.heap.size wr w1 := (by rcases hw1 with rfl | rfl; (exact Below.refl _ _); (exact Lib.bytesWorld_below _ _ _)); have HOW := Lib.hid (hown.kept (grownBy_of_below hb1) (by cases (Value.slice Av L.length cvv).ownBlock <;> simp)); have HB1 := Lib.hid (hB.trans (hb1.mono hB.size)); clear hw1 hb1)
        go_wp2_with (at_builtin; refine wpList_append_own _ rfl _ _ 158 rfl w.heap.size 201 i0 (.int .u64 0) 1 8 Tryz.underlying158 hi hz0 hz1 hz2 rfl (by decide) _ _ _ rfl (HOW.out.alloc _) ⟨w1.heap.size, 0, none⟩ 1 1 [.int .u64 (d : Int)] rfl rfl (cell_one_new _ _ _) (by simp [Value.oneCell']) (by unfold maxLen; omega) (by omega) (by have := HB1.out.size; simp; omega) ?_; intro v' w2 hown' hgrow _)
        go_roundw
        case rel =>
          refine ⟨(e : Int) - 9, L ++ [d], rfl, by omega, by omega, by rw [List.length_append, List.length_singleton]; omega, ?_, ?_, (HB1.out.alloc HB1.out.size _).grown hgrow (by have := HB1.out.size; simp; omega) (fun k e => (HOW.out.lt k e).1)⟩
          · rw [show ((e : Int) - 9).toNat = e - 9 by omega]; exact HSTP.out
          · rw [← U64_snoc, List.length_append]; exact hown'
        case measure => simp [intOf]; omega
      · have hmax : max (0 : Int) ((e : Int) - 9) = 0 := by omega
        have h90 : e - 9 = 0 := by omega
        rw [h90] at HPU
        go_upto_region 6 with (clear TK1; go_at_call 202; refine (HPU.out _).mono ?_; rintro e w1 ⟨rfl, hw1⟩; have hb1 : Below wr.heap.size wr w1 := (by rcases hw1 with rfl | rfl; (exact Below.refl _ _); (exact Lib.bytesWorld_below _ _ _)); have HOW := Lib.hid (hown.kept (grownBy_of_below hb1) (by cases (Value.slice Av L.length cvv).ownBlock <;> simp)); have HB1 := Lib.hid (hB.trans (hb1.mono hB.size)); clear hw1 hb1)
        go_wp2_with (at_builtin; refine wpList_append_own _ rfl _ _ 158 rfl w.heap.size 201 i0 (.int .u64 0) 1 8 Tryz.underlying158 hi hz0 hz1 hz2 rfl (by decide) _ _ _ rfl (HOW.out.alloc _) ⟨w1.heap.size, 0, none⟩ 1 1 [.int .u64 (d : Int)] rfl rfl (cell_one_new _ _ _) (by simp [Value.oneCell']) (by unfold maxLen; omega) (by omega) (by have := HB1.out.size; simp; omega) ?_; intro v' w2 hown' hgrow _)
        go_roundw
        case rel =>
          refine ⟨(e : Int) - 9, L ++ [d], rfl, by omega, by omega, by rw [List.length_append, List.length_singleton]; omega, ?_, ?_, (HB1.out.alloc HB1.out.size _).grown hgrow (by have := HB1.out.size; simp; omega) (fun k e => (HOW.out.lt k e).1)⟩
          · rw [show ((e : Int) - 9).toNat = e - 9 by omega]; exact HSTP.out
          · rw [← U64_snoc, List.length_append]; exact hown'
        case measure => simp [intOf]; omega
    · have hz0' : z.toNat = 0 := by omega
      rw [hz0'] at hinv
      obtain ⟨hsL, hvL⟩ := hinv.done
      obtain ⟨A5, c5, rfl⟩ := slice_of_owns hown
      obtain ⟨h0, h1, h2, h3⟩ := row_of_owns hown
      have HVL := Lib.hid hvL
      clear hinv hown h0 hz0' hvL
      go_wp2_with (go_at_call 190; refine (trim_any L _ _ _ _ rfl hsL h1 h2 h3).mono ?_; rintro e w' ⟨rfl, rfl⟩)
      go_ret
      refine ⟨_, rfl, ?_, hB⟩
      rw [HVL.out]
      exact isNat_trim hsL h3 (c := c5) h1 h2 HVL.out
end Go.Proofs.YtbfhonhjejeaiaaGreatDoor
namespace Go.Proofs.YtbfhonhjejeaiaaGreatDoor
open Go.RowKit Go.Shelf
open Lim

set_option maxRecDepth 100000 in
set_option maxHeartbeats 2000000 in
theorem rread_any (s : ByteArray) (w : World) (hd : Dg s.data.toList) (hlen : s.size ≤ 270000) :
    Calls Tryz.prog 136 #[.string s] w fun e w' => ∃ v, e = .returned v ∧ IsNatI w' v (dv s.data.toList) ∧ Below w.heap.size w w' := by
  obtain ⟨i0, hi, hz0, hz1, hz2⟩ := info_parts Tryz.infoI
  have HD := Lib.hid hd
  have hsl := size_list s
  have HSL := Lib.hid hsl
  have HST := Lib.hid (ReadInv.start s.data.toList)
  clear hd hsl
  go_enter Tryz.func136, Tryz.ntmps136
  go_wp2
  go_loopw [3, 4] (fun sv se wr => ∃ (z : Int) (L : List Nat), se = .int .i64 z ∧ z ≤ (s.size : Int) ∧ -9 < z ∧ 9 * (L.length : Int) ≤ (s.size : Int) - z ∧ ReadInv s.data.toList z.toNat L ∧ wr.ownsRow w.heap.size 3 1 sv L.length (I64 L) ∧ Below w.heap.size w wr) (fun _ se _ => (intOf se + 9).toNat)
  case atStart => exact ⟨(s.size : Int), [], rfl, Int.le_refl _, by omega, by simp, by rw [Int.toNat_natCast, HSL.out]; exact HST.out, World.ownsRow_nil _ _ _ _, Below.refl _ _⟩
  case round =>
    obtain ⟨z, L, rfl, hz1', hz2', hz3, hinv, hown, hB⟩ := hrel
    clear HST
    by_cases hz : 0 < z
    · obtain ⟨e, rfl⟩ : ∃ e : Nat, z = (e : Int) := ⟨z.toNat, by omega⟩
      rw [Int.toNat_natCast] at hinv
      have hel : e ≤ s.data.toList.length := by rw [← HSL.out]; omega
      have he0 : 0 < e := by omega
      have HSTP := Lib.hid (hinv.step HD.out he0 hel rfl)
      have HEL := Lib.hid hel
      have HB := Lib.hid hB
      have HOW := Lib.hid hown
      obtain ⟨Av, cvv, rfl⟩ := slice_of_owns hown
      obtain ⟨a, ha⟩ : ∃ a, e - 9 = a := ⟨_, rfl⟩
      have hae : a < e := by omega
      have hmax : max (0 : Int) ((e : Int) - 9) = (a : Int) := by omega
      have HSTA := Lib.hid (show dv ((s.data.toList.take a).drop a) = 0 by rw [List.drop_of_length_le (by rw [List.length_take]; omega)]; rfl)
      rw [ha] at HSTP
      have HA := Lib.hid ha
      clear hinv hel hown hB ha
      obtain ⟨wo, rfl⟩ : ∃ wo, wo = wr := ⟨_, rfl⟩
      go_wp2
      go_loopw [5, 6] (fun sn si wr => ∃ i n : Nat, a ≤ i ∧ i ≤ e ∧ sn = .int .i64 (n : Int) ∧ si = .int .i64 (i : Int) ∧ n = dv ((s.data.toList.take i).drop a) ∧ wr = wo) (fun _ si _ => e - (intOf si).toNat)
      case atStart => exact ⟨a, 0, Nat.le_refl _, by omega, rfl, rfl, HSTA.out.symm, rfl⟩
      case round =>
        obtain ⟨i, n, hai, hie, rfl, rfl, hn, rfl⟩ := hrel
        have HN := Lib.hid hn
        clear hn
        by_cases hlt : i < e
        · have hil : i < s.data.toList.length := by have := HEL.out; omega
          have hisz : i < s.size := by rw [HSL.out]; exact hil
          have hsi : s[i] = s.data.toList[i] := by rw [Array.getElem_toList]; rfl
          have hdg := isD_iff.1 (HD.out _ (List.getElem_mem hil))
          rw [← hsi] at hdg
          have hnx : dv ((s.data.toList.take (i + 1)).drop a) = n * 10 + (s[i].toNat - 48) := by
            rw [HN.out, List.take_succ_eq_append_getElem hil, List.drop_append_of_le_length (by rw [List.length_take]; omega), dv_snoc, hsi]
          have hn9 : n < 1000000000 := by
            rw [HN.out]
            refine Nat.lt_of_lt_of_le (dv_lt ((HD.out.take i).drop a)) ?_
            refine Nat.le_trans (Nat.pow_le_pow_right (by omega) (show _ ≤ 9 from ?_)) (by decide)
            rw [List.length_drop, List.length_take]
            have := HA.out
            omega
          have HNX := Lib.hid hnx
          have HDG := Lib.hid hdg
          clear hsi hnx hdg
          go_wp2
          have hdg := HDG.out
          go_roundw
          case rel => exact ⟨i + 1, n * 10 + (s[i].toNat - 48), by omega, hlt, int_eq (by omega), by go_num, HNX.out.symm, trivial⟩
          case measure => simp [intOf]; omega
        · obtain rfl : i = e := by omega
          have hn9 : n < 1000000000 := by
            rw [HN.out]
            refine Nat.lt_of_lt_of_le (dv_lt ((HD.out.take i).drop a)) ?_
            refine Nat.le_trans (Nat.pow_le_pow_right (by omega) (show _ ≤ 9 from ?_)) (by decide)
            rw [List.length_drop, List.length_take]
            have := HA.out
            omega
          rw [← HN.out] at HSTP
          go_wp2_with (at_builtin; refine wpList_append_own _ rfl _ _ 110 rfl w.heap.size 3 i0 (.int .i64 0) 1 8 Tryz.underlying110 hi hz0 hz1 hz2 rfl (by decide) _ _ _ rfl (HOW.out.alloc _) ⟨wr.heap.size, 0, none⟩ 1 1 [.int .i64 (n : Int)] rfl rfl (cell_one_new _ _ _) (by simp [Value.oneCell']) (by unfold maxLen; omega) (by omega) (by have := HB.out.size; simp; omega) ?_; intro v' w2 hown' hgrow _)
          go_roundw
          case rel =>
            refine ⟨(i : Int) - 9, L ++ [n], rfl, by omega, by omega, by rw [List.length_append, List.length_singleton]; omega, ?_, ?_, (HB.out.alloc HB.out.size _).grown hgrow (by have := HB.out.size; simp; omega) (fun k e => (HOW.out.lt k e).1)⟩
            · rw [show ((i : Int) - 9).toNat = a by have := HA.out; omega]; exact HSTP.out
            · rw [← I64_snoc, List.length_append]; exact hown'
          case measure => simp [intOf]; omega
    · have hz0' : z.toNat = 0 := by omega
      rw [hz0'] at hinv
      obtain ⟨hsL, hvL⟩ := hinv.done
      obtain ⟨A5, c5, rfl⟩ := slice_of_owns hown
      obtain ⟨h0, h1, h2, h3⟩ := row_of_owns hown
      have HVL := Lib.hid hvL
      clear hinv hown h0 hz0' hvL
      go_wp2_with (go_at_call 178; refine (rtrim_any L _ _ _ _ rfl hsL h1 h2 h3).mono ?_; rintro e w' ⟨rfl, rfl⟩)
      go_ret
      refine ⟨_, rfl, ?_, hB⟩
      rw [HVL.out]
      exact isNatI_trim hsL h3 (c := c5) h1 h2 HVL.out
end Go.Proofs.YtbfhonhjejeaiaaGreatDoor
namespace Go.Proofs.YtbfhonhjejeaiaaGreatDoor
open Go.RowKit Go.Shelf
open Lim

theorem dropWhile_head {p : UInt8 → Bool} : ∀ (l r : List UInt8) {x : UInt8}, l.dropWhile p = x :: r → p x = false
  | [], r, x, h => by cases h
  | y :: l, r, x, h => by
    rw [List.dropWhile_cons] at h
    cases hy : p y with
    | true => rw [hy] at h; exact dropWhile_head l r (by simpa using h)
    | false => rw [hy] at h; simp at h; rw [← h.1]; exact hy
/-- All digits: nothing is left when digits are trimmed. -/
theorem trim_digits (l : List UInt8) : (Lib.trimS l [48, 49, 50, 51, 52, 53, 54, 55, 56, 57]).isEmpty = l.all isD := by
  have hc : ∀ b : UInt8, ([48, 49, 50, 51, 52, 53, 54, 55, 56, 57] : List UInt8).contains b = isD b := by
    have : ∀ k : Fin 256, ([48, 49, 50, 51, 52, 53, 54, 55, 56, 57] : List UInt8).contains (UInt8.ofNat k.val) = isD (UInt8.ofNat k.val) := by decide +kernel
    intro b
    have h := this ⟨b.toNat, b.toNat_lt⟩
    simpa using h
  have hdw : ∀ r : List UInt8, (r.dropWhile (([48, 49, 50, 51, 52, 53, 54, 55, 56, 57] : List UInt8).contains ·)).isEmpty = r.all isD := by
    intro r
    induction r with
    | nil => rfl
    | cons x r ih =>
      rw [List.dropWhile_cons, hc, List.all_cons]
      cases isD x with
      | true => simpa using ih
      | false => simp
  unfold Lib.trimS Lib.trimLeftS Lib.trimRightS
  rw [hdw]
  by_cases h : l.all isD = true
  · rw [h, List.all_reverse, List.all_eq_true]
    intro b hb
    have h2 : (l.reverse.dropWhile (([48, 49, 50, 51, 52, 53, 54, 55, 56, 57] : List UInt8).contains ·)).isEmpty = true := by rw [hdw, List.all_reverse]; exact h
    rw [List.isEmpty_iff] at h2
    rw [h2] at hb
    cases hb
  · have h2 : (l.reverse.dropWhile (([48, 49, 50, 51, 52, 53, 54, 55, 56, 57] : List UInt8).contains ·)).isEmpty = false := by
      rw [hdw, List.all_reverse]; simpa using h
    rw [Bool.eq_false_iff.2 h]
    have hne : l.reverse.dropWhile (([48, 49, 50, 51, 52, 53, 54, 55, 56, 57] : List UInt8).contains ·) ≠ [] := fun e => by rw [e] at h2; simp at h2
    obtain ⟨x, r, hx⟩ := List.exists_cons_of_ne_nil hne
    rw [hx, List.all_reverse, List.all_cons]
    have hd := dropWhile_head _ _ hx
    rw [hc] at hd
    rw [hd]
    simp

theorem trim10_any (s : ByteArray) (w : World) (hs : s.size ≤ 4000000000) :
    Calls Tryz.prog 201 #[.string s, .string ⟨#[48, 49, 50, 51, 52, 53, 54, 55, 56, 57]⟩] w fun e w' => e = .returned (.string ⟨(Lib.trimS s.data.toList [48, 49, 50, 51, 52, 53, 54, 55, 56, 57]).toArray⟩) ∧ Below w.heap.size w w' :=
  Any.strings_Trim_laid Tryz.lays160 (by kernel_rfl) s ⟨#[48, 49, 50, 51, 52, 53, 54, 55, 56, 57]⟩ w (by omega) (by decide) (by
    intro j b hb
    have : b ∈ ([48, 49, 50, 51, 52, 53, 54, 55, 56, 57] : List UInt8) := List.mem_of_getElem? hb
    have key : ∀ b ∈ ([48, 49, 50, 51, 52, 53, 54, 55, 56, 57] : List UInt8), b.toNat < 128 := by decide
    exact key b this)

set_option maxRecDepth 100000 in
set_option maxHeartbeats 1000000 in
theorem form_any (s : ByteArray) (w : World) (hlen : s.size ≤ 4000000000) :
    Calls Tryz.prog 171 #[.string s] w fun e w' => e = .returned (.bool (NForm s.data.toList)) ∧ Below w.heap.size w w' := by
  have hl := Lib.toList_data s
  by_cases h1 : s.data.toList = []
  · have e1 : s.toList.isEmpty = true := by rw [hl, h1]; rfl
    have e2 : NForm s.data.toList = false := by rw [h1]; rfl
    rw [e2]
    clear hl h1 e2
    go_enter Tryz.func171, Tryz.ntmps171
    go_wp2
    go_ret
    exact ⟨rfl, Below.refl _ _⟩
  · have e1 : s.toList.isEmpty = false := by rw [hl, List.isEmpty_eq_false_iff]; exact h1
    have hpos : 0 < s.size := by rw [size_list]; exact List.length_pos_iff.2 h1
    have hs0 : s[0] = s.data.toList[0]'(by rw [← size_list]; exact hpos) := by rw [Array.getElem_toList]; rfl
    have hhead : s.data.toList.head? = some s[0] := by rw [hs0, List.head?_eq_getElem?, List.getElem?_eq_getElem]
    obtain ⟨r, hr⟩ : ∃ r : ByteArray, (⟨(Lib.trimS s.data.toList [48, 49, 50, 51, 52, 53, 54, 55, 56, 57]).toArray⟩ : ByteArray) = r := ⟨_, rfl⟩
    have hre : r.toList.isEmpty = s.data.toList.all isD := by
      rw [← trim_digits, Lib.toList_data, ← hr]
    have HT := Lib.hid (fun W => trim10_any s W hlen)
    rw [hr] at HT
    have hnf : NForm s.data.toList = ((s.data.toList == [48] || s.data.toList.head? != some 48) && s.data.toList.all isD) := by
      unfold NForm
      rw [List.isEmpty_eq_false_iff.2 h1]
      rfl
    by_cases h2 : s.data.toList = [48]
    · have e2 : s.toList = [48] := by rw [hl]; exact h2
      have e3 : r.toList.isEmpty = true := by rw [hre, h2]; rfl
      have e4 : NForm s.data.toList = true := by rw [h2]; rfl
      rw [e4]
      clear hl h1 h2 hs0 hhead hre hr hnf e4
      go_enter Tryz.func171, Tryz.ntmps171
      have TK1 : True := trivial
      go_wp2_with (clear TK1; go_at_call 201; refine (HT.out _).mono ?_; rintro e w1 ⟨rfl, hb1⟩; have HB1 := Lib.hid hb1; clear hb1)
      go_ret
      exact ⟨rfl, HB1.out⟩
    · have e2 : ¬ s.toList = [48] := by rw [hl]; exact h2
      have e2' : (s.toList == [48]) = false := by rw [beq_eq_false_iff_ne]; exact e2
      have hb2 : (s.data.toList == [48]) = false := by rw [beq_eq_false_iff_ne]; exact h2
      rw [hb2, Bool.false_or, hhead] at hnf
      by_cases h3 : (s[0].toNat : Int) = 48
      · have e4 : NForm s.data.toList = false := by
          rw [hnf]
          have : s[0] = 48 := by
            apply UInt8.toNat_inj.1
            show s[0].toNat = 48
            omega
          rw [this]
          rfl
        rw [e4]
        have h3' : (((s[0].toNat : Int)) != 48) = false := by rw [bne_eq_false_iff_eq]; exact h3
        clear hl h1 h2 hs0 hhead hre hr hnf e4 hb2
        go_enter Tryz.func171, Tryz.ntmps171
        go_wp2
        go_ret
        exact ⟨rfl, Below.refl _ _⟩
      · have h3' : (((s[0].toNat : Int)) != 48) = true := by rw [bne_iff_ne]; exact h3
        have e4 : NForm s.data.toList = s.data.toList.all isD := by
          rw [hnf]
          have : (some s[0] != some (48 : UInt8)) = true := by
            rw [bne_iff_ne]
            intro e
            apply h3
            injection e with e
            rw [e]; rfl
          rw [this, Bool.true_and]
        rw [e4, ← hre]
        have HRE := Lib.hid hre
        clear hl h1 h2 hs0 hhead hre hr hnf e4 hb2
        obtain ⟨rb, hrb⟩ : ∃ rb, r.toList.isEmpty = rb := ⟨_, rfl⟩
        rw [hrb]
        go_enter Tryz.func171, Tryz.ntmps171
        have TK1 : True := trivial
        cases rb with
        | true =>
          go_wp2_with (clear TK1; go_at_call 201; refine (HT.out _).mono ?_; rintro e w1 ⟨rfl, hb1⟩; have HB1 := Lib.hid hb1; clear hb1)
          go_ret
          exact ⟨rfl, HB1.out⟩
        | false =>
          go_wp2_with (clear TK1; go_at_call 201; refine (HT.out _).mono ?_; rintro e w1 ⟨rfl, hb1⟩; have HB1 := Lib.hid hb1; clear hb1)
          go_ret
          exact ⟨rfl, HB1.out⟩
end Go.Proofs.YtbfhonhjejeaiaaGreatDoor
namespace Go.Proofs.YtbfhonhjejeaiaaGreatDoor
open Go.RowKit Go.Shelf
open Lim

theorem cut_prefix (l : List UInt8) : Lib.hasPrefix l [45] = (intP l).1 ∧ Lib.trimPrefix l [45] = (intP l).2 := by
  unfold Lib.trimPrefix Lib.hasPrefix intP
  cases l with
  | nil => exact ⟨rfl, rfl⟩
  | cons x r =>
    by_cases h : x = 45
    · subst h; exact ⟨rfl, rfl⟩
    · have h1 : ([45] : List UInt8).isPrefixOf (x :: r) = false := by simp [List.isPrefixOf]; exact fun e => h e.symm
      have h2 : ¬ (x :: r).head? = some 45 := by simp [h]
      rw [h1, if_neg h2]
      exact ⟨rfl, rfl⟩
theorem intP_le (l : List UInt8) : (intP l).2.length ≤ l.length := by
  unfold intP
  split
  · simp
  · exact Nat.le_refl _

set_option maxRecDepth 100000 in
set_option maxHeartbeats 2000000 in
theorem integer_any (s : ByteArray) (w : World) (hlen : s.size ≤ 4000000000) :
    Calls Tryz.prog 170 #[.string s] w fun e w' => e = .returned (.tuple #[.bool (intP s.data.toList).1, .string ⟨(intP s.data.toList).2.toArray⟩, .bool (intOk s.data.toList)]) ∧ Below w.heap.size w w' := by
  obtain ⟨hp1, hp2⟩ := cut_prefix s.data.toList
  have hle := intP_le s.data.toList
  have hsz := size_list s
  unfold intOk
  generalize intP s.data.toList = p at *
  obtain ⟨m, l⟩ := p
  dsimp only at hp1 hp2 hle ⊢
  have hl2 : (⟨l.toArray⟩ : ByteArray).size ≤ 4000000000 := by
    show l.toArray.size ≤ _
    rw [List.size_toArray]; omega
  generalize hs2 : (⟨l.toArray⟩ : ByteArray) = s2 at *
  have hd2 : s2.data.toList = l := by rw [← hs2]
  have HC := Lib.hid (Tryz.strings_CutPrefix s ⟨#[45]⟩)
  have HP := Lib.hid (And.intro hp1 hp2)
  have HL := Lib.hid hl2
  have HD := Lib.hid hd2
  have HS2 := Lib.hid hs2
  have HF := Lib.hid (fun w' => form_any s2 w' hl2)
  have e2 : s2.toList = l := by rw [Lib.toList_data, hd2]
  generalize hnf : NForm l = f at *
  have HNF := Lib.hid hnf
  have E2 := Lib.hid e2
  clear hp1 hp2 hle hsz hl2 hd2 hs2 hnf e2
  cases f <;> cases m <;>
  · go_enter Tryz.func170, Tryz.ntmps170
    go_wp2_with (first
      | (go_at_call 200; refine (HC.out _).mono ?_; rintro e w1 ⟨rfl, rfl⟩; rw [show Lib.hasPrefix s.data.toList (⟨#[45]⟩ : ByteArray).data.toList = _ from HP.out.1, show Lib.trimPrefix s.data.toList (⟨#[45]⟩ : ByteArray).data.toList = l from HP.out.2, HS2.out])
      | (go_at_call 171; refine (HF.out _).mono ?_; rintro e w2 ⟨rfl, hb2⟩; have HB2 := Lib.hid hb2; clear hb2; rw [HD.out, HNF.out]))
    refine bodyPost_ret (results_tmp3 rfl _ _ _) rfl ⟨?_, HB2.out⟩
    first | rfl | (simp [E2.out])

theorem dg_of_form {l : List UInt8} (h : NForm l = true) : Dg l := by
  have e := NForm.eq h
  rw [← e]
  exact decDigits_dg _

end Go.Proofs.YtbfhonhjejeaiaaGreatDoor

namespace Go.Proofs.YtbfhonhjejeaiaaGreatDoor
open Go.RowKit Go.Shelf
open Lim

/-- A function whose results are a fraction in a block and a value. -/
theorem ret_frac2 {fn : Func} {p u : Tmp} {R : Ending → World → Prop} {a : Act} {w : World} {g : Nat} {t : TypeId} {m vn vd : Value} (h : fn.results = #[.cell p 160, .tmp u]) (hd : a.defers = []) (hp : a.tmps.getD p undef = .pointer (some ⟨g, 0, none⟩))
    (hg : Blk w g t #[m, vn, vd]) (hR : R (.returned (.tuple #[.agg #[m, vn, vd], a.tmps.getD u undef])) w) : bodyPost Tryz.prog fn R .ret a w := by
  refine bodyPost_ret ?_ hd hR
  rw [results_cell_tmp h, hp]
  simp only [asAddr, Sem.run_pure, Result.andThen_ok]
  rw [run_loadVar_row w g t 160 #[m, vn, vd] (0, 0) _ hg Tryz.underlying160 rfl fsize]
  rfl
theorem max_of {w : World} (h : Res w) : ∃ m : Int, w.cell? ⟨0, 0, none⟩ = some (.int .i64 m) := h.max
theorem below_drewN {n : Nat} {w W : World} {k : Nat} (h : Below n w W) : Below n w (W.drewN k) := ⟨h.os, h.tape, h.output, h.size, h.block⟩
theorem beta_ba (s : ByteArray) : (⟨s.data.toList.toArray⟩ : ByteArray) = s := by cases s; simp
/-- The fraction that goes with an error. -/
abbrev zV : Value := .agg #[.bool false, .slice none 0 0, .slice none 0 0]
theorem z_new (w : World) : Blk (w.alloc zF) w.heap.size 160 #[.bool false, .slice none 0 0, .slice none 0 0] := Blk.new w _ _

theorem cells6 {w : World} {b : Nat} {t : TypeId} {x y z : Value} (h : Blk w b t #[x, y, z]) : w.cell? ⟨b, 0, none⟩ = some x ∧ w.cell? ⟨b, 1, none⟩ = some y ∧ w.cell? ⟨b, 2, none⟩ = some z ∧ w.frozen? ⟨b, 0, none⟩ = false ∧ w.frozen? ⟨b, 1, none⟩ = false ∧ w.frozen? ⟨b, 2, none⟩ = false :=
  ⟨(cellrow h 0 (by simp)).1, (cellrow h 1 (by simp)).1, (cellrow h 2 (by simp)).1, (cellrow h 0 (by simp)).2, (cellrow h 1 (by simp)).2, (cellrow h 2 (by simp)).2⟩
theorem cells6A {w : World} {b : Nat} {t : TypeId} {x y z : Value} (h : Blk w b t #[x, y, z]) : (∀ o, (w.alloc o).cell? ⟨b, 0, none⟩ = some x) ∧ (∀ o, (w.alloc o).cell? ⟨b, 1, none⟩ = some y) ∧ (∀ o, (w.alloc o).cell? ⟨b, 2, none⟩ = some z) ∧ (∀ o, (w.alloc o).frozen? ⟨b, 0, none⟩ = false) ∧ (∀ o, (w.alloc o).frozen? ⟨b, 1, none⟩ = false) ∧ (∀ o, (w.alloc o).frozen? ⟨b, 2, none⟩ = false) :=
  ⟨fun o => (cells6 (h.alloc o)).1, fun o => (cells6 (h.alloc o)).2.1, fun o => (cells6 (h.alloc o)).2.2.1, fun o => (cells6 (h.alloc o)).2.2.2.1, fun o => (cells6 (h.alloc o)).2.2.2.2.1, fun o => (cells6 (h.alloc o)).2.2.2.2.2⟩
set_option maxRecDepth 100000 in
set_option maxHeartbeats 2000000 in
theorem parse_bad_none (s a b n2 : ByteArray) (m sl ok : Bool) (w : World) (hr : Res w) (hs : s.size ≤ 270000) (ha : a.size ≤ 270000) (_hb : b.size ≤ 270000) (_hn : n2.size ≤ 270000) (hc : Lib.cut s.data.toList [47] = (a.data.toList, b.data.toList, sl))
    (hi : intP a.data.toList = (m, n2.data.toList)) (hok : intOk a.data.toList = ok) (hsl : sl = false) (h0 : ok = false) :
    Calls Tryz.prog 127 #[.string s] w fun e w' => ∃ v, v = zV ∧ e = .returned (.tuple #[v, .int .i64 3]) ∧ Below w.heap.size w w' := by
  have HR := Lib.hid hr
  have HC := Lib.hid hc
  have HI := Lib.hid (And.intro hi hok)
  have HB0 := Lib.hid ((Below.refl w.heap.size w).alloc (Nat.le_refl _) zF)
  have TK1 : True := trivial
  clear hr hc hi hok
  subst hsl h0
  · go_enter Tryz.func127, Tryz.ntmps127
    go_wp2_with (first
      | (go_at_call 169; (obtain ⟨mx, hmx⟩ := max_of (HR.out.below HB0.out); refine (Tryz.strings_Cut s ⟨#[47]⟩ mx _ (by omega) hmx).mono ?_; rintro e w1 ⟨rfl, k, hw1⟩; rw [show Lib.cut s.data.toList (⟨#[47]⟩ : ByteArray).data.toList = _ from HC.out]; dsimp only; rw [beta_ba, beta_ba]; have HB1 := Lib.hid (show Below w.heap.size w w1 by rw [hw1]; exact below_drewN HB0.out); have HP1 := Lib.hid (show Blk w1 w.heap.size 160 #[.bool false, .slice none 0 0, .slice none 0 0] by rw [hw1]; exact z_new w); clear hw1 hmx))
      | (go_at_call 170; refine (integer_any a _ (by omega)).mono ?_; rintro e w2 ⟨rfl, hb2⟩; rw [HI.out.1, HI.out.2]; dsimp only; rw [beta_ba]; have HB2 := Lib.hid (HB1.out.trans (hb2.mono HB1.out.size)); have HP2 := Lib.hid (HP1.out.below hb2 HP1.out.lt); obtain ⟨h20, h21, h22, h23, h24, h25⟩ := cells6 HP2.out; clear hb2))
    refine ret_frac2 rfl rfl (by simp) (set3 HP2.out) ⟨_, rfl, rfl, ?_⟩
    exact set3_below (g := w.heap.size) HB2.out (Nat.le_refl _)

set_option maxRecDepth 100000 in
set_option maxHeartbeats 2000000 in
theorem parse_long_none (s a b n2 : ByteArray) (m sl ok : Bool) (w : World) (hr : Res w) (hs : s.size ≤ 270000) (ha : a.size ≤ 270000) (_hb : b.size ≤ 270000) (hn : n2.size ≤ 270000) (hc : Lib.cut s.data.toList [47] = (a.data.toList, b.data.toList, sl))
    (hi : intP a.data.toList = (m, n2.data.toList)) (hok : intOk a.data.toList = ok) (hsl : sl = false) (h0 : ok = true) (hl : 4000 < n2.size) :
    Calls Tryz.prog 127 #[.string s] w fun e w' => ∃ v, v = zV ∧ e = .returned (.tuple #[v, .int .i64 5]) ∧ Below w.heap.size w w' := by
  have HR := Lib.hid hr
  have HC := Lib.hid hc
  have HI := Lib.hid (And.intro hi hok)
  have HB0 := Lib.hid ((Below.refl w.heap.size w).alloc (Nat.le_refl _) zF)
  have TK1 : True := trivial
  clear hr hc hi hok
  have hl1 : decide ((4000 : Int) < (n2.size : Int)) = true := decide_eq_true (by omega)
  clear hl
  subst hsl h0
  · go_enter Tryz.func127, Tryz.ntmps127
    go_wp2_with (first
      | (go_at_call 169; (obtain ⟨mx, hmx⟩ := max_of (HR.out.below HB0.out); refine (Tryz.strings_Cut s ⟨#[47]⟩ mx _ (by omega) hmx).mono ?_; rintro e w1 ⟨rfl, k, hw1⟩; rw [show Lib.cut s.data.toList (⟨#[47]⟩ : ByteArray).data.toList = _ from HC.out]; dsimp only; rw [beta_ba, beta_ba]; have HB1 := Lib.hid (show Below w.heap.size w w1 by rw [hw1]; exact below_drewN HB0.out); have HP1 := Lib.hid (show Blk w1 w.heap.size 160 #[.bool false, .slice none 0 0, .slice none 0 0] by rw [hw1]; exact z_new w); clear hw1 hmx))
      | (go_at_call 170; refine (integer_any a _ (by omega)).mono ?_; rintro e w2 ⟨rfl, hb2⟩; rw [HI.out.1, HI.out.2]; dsimp only; rw [beta_ba]; have HB2 := Lib.hid (HB1.out.trans (hb2.mono HB1.out.size)); have HP2 := Lib.hid (HP1.out.below hb2 HP1.out.lt); obtain ⟨h20, h21, h22, h23, h24, h25⟩ := cells6 HP2.out; clear hb2))
    refine ret_frac2 rfl rfl (by simp) (set3 HP2.out) ⟨_, rfl, rfl, ?_⟩
    exact set3_below (g := w.heap.size) HB2.out (Nat.le_refl _)

set_option maxRecDepth 100000 in
set_option maxHeartbeats 2000000 in
theorem parse_ok_none (s a b n2 : ByteArray) (m sl ok : Bool) (w : World) (hr : Res w) (hs : s.size ≤ 270000) (ha : a.size ≤ 270000) (_hb : b.size ≤ 270000) (hn : n2.size ≤ 270000) (hc : Lib.cut s.data.toList [47] = (a.data.toList, b.data.toList, sl))
    (hi : intP a.data.toList = (m, n2.data.toList)) (hok : intOk a.data.toList = ok) (hsl : sl = false) (h0 : ok = true) (hl : n2.size ≤ 4000) (hd : Dg n2.data.toList) :
    Calls Tryz.prog 127 #[.string s] w fun e w' => ∃ v, e = .returned (.tuple #[v, .int .i64 0]) ∧ IsParts w' v m (dv n2.data.toList) (dv [49]) ∧ Below w.heap.size w w' := by
  have HR := Lib.hid hr
  have HC := Lib.hid hc
  have HI := Lib.hid (And.intro hi hok)
  have HB0 := Lib.hid ((Below.refl w.heap.size w).alloc (Nat.le_refl _) zF)
  have TK1 : True := trivial
  clear hr hc hi hok
  have HG := Lib.hid (And.intro hd (show Dg (⟨#[49]⟩ : ByteArray).data.toList from fun x hx => by simp at hx; subst hx; rfl))
  have hl1 : decide ((4000 : Int) < (n2.size : Int)) = false := decide_eq_false (by omega)
  clear hd hl
  subst hsl h0
  · go_enter Tryz.func127, Tryz.ntmps127
    go_wp2_with (first
      | (go_at_call 169; (obtain ⟨mx, hmx⟩ := max_of (HR.out.below HB0.out); refine (Tryz.strings_Cut s ⟨#[47]⟩ mx _ (by omega) hmx).mono ?_; rintro e w1 ⟨rfl, k, hw1⟩; rw [show Lib.cut s.data.toList (⟨#[47]⟩ : ByteArray).data.toList = _ from HC.out]; dsimp only; rw [beta_ba, beta_ba]; have HB1 := Lib.hid (show Below w.heap.size w w1 by rw [hw1]; exact below_drewN HB0.out); have HP1 := Lib.hid (show Blk w1 w.heap.size 160 #[.bool false, .slice none 0 0, .slice none 0 0] by rw [hw1]; exact z_new w); clear hw1 hmx))
      | (go_at_call 170; refine (integer_any a _ (by omega)).mono ?_; rintro e w2 ⟨rfl, hb2⟩; rw [HI.out.1, HI.out.2]; dsimp only; rw [beta_ba]; have HB2 := Lib.hid (HB1.out.trans (hb2.mono HB1.out.size)); have HP2 := Lib.hid (HP1.out.below hb2 HP1.out.lt); obtain ⟨h20, h21, h22, h23, h24, h25⟩ := cells6 HP2.out; clear hb2)
      | (clear TK1; go_at_call 172; refine (parse_any n2 _ HG.out.1 (by omega)).mono ?_; rintro e w4 ⟨v4, rfl, hv4, hb4⟩; obtain ⟨A4, c4, rfl, _, _, _⟩ := id hv4; have HV4 := Lib.hid hv4; have HB4 := Lib.hid (HB2.out.trans (hb4.mono HB2.out.size)); have HP4 := Lib.hid (HP2.out.below hb4 HP2.out.lt); clear hv4 hb4)
      | (go_at_call 172; refine (parse_any (⟨#[49]⟩ : ByteArray) _ HG.out.2 (by first | omega | decide)).mono ?_; rintro e w5 ⟨v5, rfl, hv5, hb5⟩; obtain ⟨A5, c5, rfl, _, _, _⟩ := id hv5; have HV5 := Lib.hid hv5; have HV4' := Lib.hid (HV4.out.below hb5); have HB5 := Lib.hid (HB4.out.trans (hb5.mono HB4.out.size)); have HP5 := Lib.hid (HP4.out.below hb5 HP4.out.lt); obtain ⟨h50, h51, h52, h53, h54, h55⟩ := cells6A HP5.out; clear hv5 hb5))
    refine ret_frac2 rfl rfl (by simp) (set3 ((HP5.out).alloc _)) ⟨_, rfl, ?_, ?_⟩
    · have hx := (Below.refl w5.heap.size w5).alloc (Nat.le_refl _) (.cells #[.bool m, .slice A4 (toL (dv n2.data.toList)).length c4, .slice A5 (toL 1).length c5] 160)
      exact isParts_mk (isNat_set3 (HV4'.out.below hx) (HP5.out.alloc _)) (isNat_set3 (HV5.out.below hx) (HP5.out.alloc _))
    · exact set3_below (g := w.heap.size) (HB5.out.alloc HB5.out.size _) (Nat.le_refl _)

set_option maxRecDepth 100000 in
set_option maxHeartbeats 2000000 in
theorem parse_bad1 (s a b n2 : ByteArray) (m sl ok : Bool) (w : World) (hr : Res w) (hs : s.size ≤ 270000) (ha : a.size ≤ 270000) (_hb : b.size ≤ 270000) (_hn : n2.size ≤ 270000) (hc : Lib.cut s.data.toList [47] = (a.data.toList, b.data.toList, sl))
    (hi : intP a.data.toList = (m, n2.data.toList)) (hok : intOk a.data.toList = ok) (hsl : sl = true) (h0 : ok = false) :
    Calls Tryz.prog 127 #[.string s] w fun e w' => ∃ v, v = zV ∧ e = .returned (.tuple #[v, .int .i64 3]) ∧ Below w.heap.size w w' := by
  have HR := Lib.hid hr
  have HC := Lib.hid hc
  have HI := Lib.hid (And.intro hi hok)
  have HB0 := Lib.hid ((Below.refl w.heap.size w).alloc (Nat.le_refl _) zF)
  have TK1 : True := trivial
  clear hr hc hi hok
  subst hsl h0
  · go_enter Tryz.func127, Tryz.ntmps127
    go_wp2_with (first
      | (go_at_call 169; (obtain ⟨mx, hmx⟩ := max_of (HR.out.below HB0.out); refine (Tryz.strings_Cut s ⟨#[47]⟩ mx _ (by omega) hmx).mono ?_; rintro e w1 ⟨rfl, k, hw1⟩; rw [show Lib.cut s.data.toList (⟨#[47]⟩ : ByteArray).data.toList = _ from HC.out]; dsimp only; rw [beta_ba, beta_ba]; have HB1 := Lib.hid (show Below w.heap.size w w1 by rw [hw1]; exact below_drewN HB0.out); have HP1 := Lib.hid (show Blk w1 w.heap.size 160 #[.bool false, .slice none 0 0, .slice none 0 0] by rw [hw1]; exact z_new w); clear hw1 hmx))
      | (go_at_call 170; refine (integer_any a _ (by omega)).mono ?_; rintro e w2 ⟨rfl, hb2⟩; rw [HI.out.1, HI.out.2]; dsimp only; rw [beta_ba]; have HB2 := Lib.hid (HB1.out.trans (hb2.mono HB1.out.size)); have HP2 := Lib.hid (HP1.out.below hb2 HP1.out.lt); obtain ⟨h20, h21, h22, h23, h24, h25⟩ := cells6 HP2.out; clear hb2))
    refine ret_frac2 rfl rfl (by simp) (set3 HP2.out) ⟨_, rfl, rfl, ?_⟩
    exact set3_below (g := w.heap.size) HB2.out (Nat.le_refl _)

set_option maxRecDepth 100000 in
set_option maxHeartbeats 2000000 in
theorem parse_bad2 (s a b n2 : ByteArray) (m sl ok : Bool) (w : World) (hr : Res w) (hs : s.size ≤ 270000) (ha : a.size ≤ 270000) (_hb : b.size ≤ 270000) (_hn : n2.size ≤ 270000) (hc : Lib.cut s.data.toList [47] = (a.data.toList, b.data.toList, sl))
    (hi : intP a.data.toList = (m, n2.data.toList)) (hok : intOk a.data.toList = ok) (hsl : sl = true) (h0 : ok = true) (z0 : (n2.toList == [48]) = true) :
    Calls Tryz.prog 127 #[.string s] w fun e w' => ∃ v, v = zV ∧ e = .returned (.tuple #[v, .int .i64 3]) ∧ Below w.heap.size w w' := by
  have HR := Lib.hid hr
  have HC := Lib.hid hc
  have HI := Lib.hid (And.intro hi hok)
  have HB0 := Lib.hid ((Below.refl w.heap.size w).alloc (Nat.le_refl _) zF)
  have TK1 : True := trivial
  clear hr hc hi hok
  subst hsl h0
  · go_enter Tryz.func127, Tryz.ntmps127
    go_wp2_with (first
      | (go_at_call 169; (obtain ⟨mx, hmx⟩ := max_of (HR.out.below HB0.out); refine (Tryz.strings_Cut s ⟨#[47]⟩ mx _ (by omega) hmx).mono ?_; rintro e w1 ⟨rfl, k, hw1⟩; rw [show Lib.cut s.data.toList (⟨#[47]⟩ : ByteArray).data.toList = _ from HC.out]; dsimp only; rw [beta_ba, beta_ba]; have HB1 := Lib.hid (show Below w.heap.size w w1 by rw [hw1]; exact below_drewN HB0.out); have HP1 := Lib.hid (show Blk w1 w.heap.size 160 #[.bool false, .slice none 0 0, .slice none 0 0] by rw [hw1]; exact z_new w); clear hw1 hmx))
      | (go_at_call 170; refine (integer_any a _ (by omega)).mono ?_; rintro e w2 ⟨rfl, hb2⟩; rw [HI.out.1, HI.out.2]; dsimp only; rw [beta_ba]; have HB2 := Lib.hid (HB1.out.trans (hb2.mono HB1.out.size)); have HP2 := Lib.hid (HP1.out.below hb2 HP1.out.lt); obtain ⟨h20, h21, h22, h23, h24, h25⟩ := cells6 HP2.out; clear hb2))
    refine ret_frac2 rfl rfl (by simp) (set3 HP2.out) ⟨_, rfl, rfl, ?_⟩
    exact set3_below (g := w.heap.size) HB2.out (Nat.le_refl _)

set_option maxRecDepth 100000 in
set_option maxHeartbeats 2000000 in
theorem parse_bad3 (s a b n2 : ByteArray) (m sl ok : Bool) (w : World) (hr : Res w) (hs : s.size ≤ 270000) (ha : a.size ≤ 270000) (hb : b.size ≤ 270000) (_hn : n2.size ≤ 270000) (hc : Lib.cut s.data.toList [47] = (a.data.toList, b.data.toList, sl))
    (hi : intP a.data.toList = (m, n2.data.toList)) (hok : intOk a.data.toList = ok) (hsl : sl = true) (h0 : ok = true) (z0 : (n2.toList == [48]) = false) (hF : NForm b.data.toList = false) :
    Calls Tryz.prog 127 #[.string s] w fun e w' => ∃ v, v = zV ∧ e = .returned (.tuple #[v, .int .i64 3]) ∧ Below w.heap.size w w' := by
  have HR := Lib.hid hr
  have HC := Lib.hid hc
  have HI := Lib.hid (And.intro hi hok)
  have HB0 := Lib.hid ((Below.refl w.heap.size w).alloc (Nat.le_refl _) zF)
  have TK1 : True := trivial
  clear hr hc hi hok
  have HF := Lib.hid hF
  clear hF
  subst hsl h0
  · go_enter Tryz.func127, Tryz.ntmps127
    go_wp2_with (first
      | (go_at_call 169; (obtain ⟨mx, hmx⟩ := max_of (HR.out.below HB0.out); refine (Tryz.strings_Cut s ⟨#[47]⟩ mx _ (by omega) hmx).mono ?_; rintro e w1 ⟨rfl, k, hw1⟩; rw [show Lib.cut s.data.toList (⟨#[47]⟩ : ByteArray).data.toList = _ from HC.out]; dsimp only; rw [beta_ba, beta_ba]; have HB1 := Lib.hid (show Below w.heap.size w w1 by rw [hw1]; exact below_drewN HB0.out); have HP1 := Lib.hid (show Blk w1 w.heap.size 160 #[.bool false, .slice none 0 0, .slice none 0 0] by rw [hw1]; exact z_new w); clear hw1 hmx))
      | (go_at_call 170; refine (integer_any a _ (by omega)).mono ?_; rintro e w2 ⟨rfl, hb2⟩; rw [HI.out.1, HI.out.2]; dsimp only; rw [beta_ba]; have HB2 := Lib.hid (HB1.out.trans (hb2.mono HB1.out.size)); have HP2 := Lib.hid (HP1.out.below hb2 HP1.out.lt); obtain ⟨h20, h21, h22, h23, h24, h25⟩ := cells6 HP2.out; clear hb2)
      | (go_at_call 171; refine (form_any b _ (by omega)).mono ?_; rintro e w3 ⟨rfl, hb3⟩; rw [HF.out]; have HB3 := Lib.hid (HB2.out.trans (hb3.mono HB2.out.size)); have HP3 := Lib.hid (HP2.out.below hb3 HP2.out.lt); obtain ⟨h30, h31, h32, h33, h34, h35⟩ := cells6 HP3.out; clear hb3))
    refine ret_frac2 rfl rfl (by simp) (set3 HP3.out) ⟨_, rfl, rfl, ?_⟩
    exact set3_below (g := w.heap.size) HB3.out (Nat.le_refl _)

set_option maxRecDepth 100000 in
set_option maxHeartbeats 2000000 in
theorem parse_bad4 (s a b n2 : ByteArray) (m sl ok : Bool) (w : World) (hr : Res w) (hs : s.size ≤ 270000) (ha : a.size ≤ 270000) (hb : b.size ≤ 270000) (_hn : n2.size ≤ 270000) (hc : Lib.cut s.data.toList [47] = (a.data.toList, b.data.toList, sl))
    (hi : intP a.data.toList = (m, n2.data.toList)) (hok : intOk a.data.toList = ok) (hsl : sl = true) (h0 : ok = true) (z0 : (n2.toList == [48]) = false) (hF : NForm b.data.toList = true) (z1 : (b.toList == [48]) = true) :
    Calls Tryz.prog 127 #[.string s] w fun e w' => ∃ v, v = zV ∧ e = .returned (.tuple #[v, .int .i64 3]) ∧ Below w.heap.size w w' := by
  have HR := Lib.hid hr
  have HC := Lib.hid hc
  have HI := Lib.hid (And.intro hi hok)
  have HB0 := Lib.hid ((Below.refl w.heap.size w).alloc (Nat.le_refl _) zF)
  have TK1 : True := trivial
  clear hr hc hi hok
  have HF := Lib.hid hF
  clear hF
  subst hsl h0
  · go_enter Tryz.func127, Tryz.ntmps127
    go_wp2_with (first
      | (go_at_call 169; (obtain ⟨mx, hmx⟩ := max_of (HR.out.below HB0.out); refine (Tryz.strings_Cut s ⟨#[47]⟩ mx _ (by omega) hmx).mono ?_; rintro e w1 ⟨rfl, k, hw1⟩; rw [show Lib.cut s.data.toList (⟨#[47]⟩ : ByteArray).data.toList = _ from HC.out]; dsimp only; rw [beta_ba, beta_ba]; have HB1 := Lib.hid (show Below w.heap.size w w1 by rw [hw1]; exact below_drewN HB0.out); have HP1 := Lib.hid (show Blk w1 w.heap.size 160 #[.bool false, .slice none 0 0, .slice none 0 0] by rw [hw1]; exact z_new w); clear hw1 hmx))
      | (go_at_call 170; refine (integer_any a _ (by omega)).mono ?_; rintro e w2 ⟨rfl, hb2⟩; rw [HI.out.1, HI.out.2]; dsimp only; rw [beta_ba]; have HB2 := Lib.hid (HB1.out.trans (hb2.mono HB1.out.size)); have HP2 := Lib.hid (HP1.out.below hb2 HP1.out.lt); obtain ⟨h20, h21, h22, h23, h24, h25⟩ := cells6 HP2.out; clear hb2)
      | (go_at_call 171; refine (form_any b _ (by omega)).mono ?_; rintro e w3 ⟨rfl, hb3⟩; rw [HF.out]; have HB3 := Lib.hid (HB2.out.trans (hb3.mono HB2.out.size)); have HP3 := Lib.hid (HP2.out.below hb3 HP2.out.lt); obtain ⟨h30, h31, h32, h33, h34, h35⟩ := cells6 HP3.out; clear hb3))
    refine ret_frac2 rfl rfl (by simp) (set3 HP3.out) ⟨_, rfl, rfl, ?_⟩
    exact set3_below (g := w.heap.size) HB3.out (Nat.le_refl _)

set_option maxRecDepth 100000 in
set_option maxHeartbeats 2000000 in
theorem parse_bad5 (s a b n2 : ByteArray) (m sl ok : Bool) (w : World) (hr : Res w) (hs : s.size ≤ 270000) (ha : a.size ≤ 270000) (hb : b.size ≤ 270000) (_hn : n2.size ≤ 270000) (hc : Lib.cut s.data.toList [47] = (a.data.toList, b.data.toList, sl))
    (hi : intP a.data.toList = (m, n2.data.toList)) (hok : intOk a.data.toList = ok) (hsl : sl = true) (h0 : ok = true) (z0 : (n2.toList == [48]) = false) (hF : NForm b.data.toList = true) (z1 : (b.toList == [48]) = false) (z2 : (b.toList == [49]) = true) :
    Calls Tryz.prog 127 #[.string s] w fun e w' => ∃ v, v = zV ∧ e = .returned (.tuple #[v, .int .i64 3]) ∧ Below w.heap.size w w' := by
  have HR := Lib.hid hr
  have HC := Lib.hid hc
  have HI := Lib.hid (And.intro hi hok)
  have HB0 := Lib.hid ((Below.refl w.heap.size w).alloc (Nat.le_refl _) zF)
  have TK1 : True := trivial
  clear hr hc hi hok
  have HF := Lib.hid hF
  clear hF
  subst hsl h0
  · go_enter Tryz.func127, Tryz.ntmps127
    go_wp2_with (first
      | (go_at_call 169; (obtain ⟨mx, hmx⟩ := max_of (HR.out.below HB0.out); refine (Tryz.strings_Cut s ⟨#[47]⟩ mx _ (by omega) hmx).mono ?_; rintro e w1 ⟨rfl, k, hw1⟩; rw [show Lib.cut s.data.toList (⟨#[47]⟩ : ByteArray).data.toList = _ from HC.out]; dsimp only; rw [beta_ba, beta_ba]; have HB1 := Lib.hid (show Below w.heap.size w w1 by rw [hw1]; exact below_drewN HB0.out); have HP1 := Lib.hid (show Blk w1 w.heap.size 160 #[.bool false, .slice none 0 0, .slice none 0 0] by rw [hw1]; exact z_new w); clear hw1 hmx))
      | (go_at_call 170; refine (integer_any a _ (by omega)).mono ?_; rintro e w2 ⟨rfl, hb2⟩; rw [HI.out.1, HI.out.2]; dsimp only; rw [beta_ba]; have HB2 := Lib.hid (HB1.out.trans (hb2.mono HB1.out.size)); have HP2 := Lib.hid (HP1.out.below hb2 HP1.out.lt); obtain ⟨h20, h21, h22, h23, h24, h25⟩ := cells6 HP2.out; clear hb2)
      | (go_at_call 171; refine (form_any b _ (by omega)).mono ?_; rintro e w3 ⟨rfl, hb3⟩; rw [HF.out]; have HB3 := Lib.hid (HB2.out.trans (hb3.mono HB2.out.size)); have HP3 := Lib.hid (HP2.out.below hb3 HP2.out.lt); obtain ⟨h30, h31, h32, h33, h34, h35⟩ := cells6 HP3.out; clear hb3))
    refine ret_frac2 rfl rfl (by simp) (set3 HP3.out) ⟨_, rfl, rfl, ?_⟩
    exact set3_below (g := w.heap.size) HB3.out (Nat.le_refl _)

set_option maxRecDepth 100000 in
set_option maxHeartbeats 2000000 in
theorem parse_long1 (s a b n2 : ByteArray) (m sl ok : Bool) (w : World) (hr : Res w) (hs : s.size ≤ 270000) (ha : a.size ≤ 270000) (hb : b.size ≤ 270000) (hn : n2.size ≤ 270000) (hc : Lib.cut s.data.toList [47] = (a.data.toList, b.data.toList, sl))
    (hi : intP a.data.toList = (m, n2.data.toList)) (hok : intOk a.data.toList = ok) (hsl : sl = true) (h0 : ok = true) (z0 : (n2.toList == [48]) = false) (hF : NForm b.data.toList = true) (z1 : (b.toList == [48]) = false) (z2 : (b.toList == [49]) = false) (hl : 4000 < n2.size) :
    Calls Tryz.prog 127 #[.string s] w fun e w' => ∃ v, v = zV ∧ e = .returned (.tuple #[v, .int .i64 5]) ∧ Below w.heap.size w w' := by
  have HR := Lib.hid hr
  have HC := Lib.hid hc
  have HI := Lib.hid (And.intro hi hok)
  have HB0 := Lib.hid ((Below.refl w.heap.size w).alloc (Nat.le_refl _) zF)
  have TK1 : True := trivial
  clear hr hc hi hok
  have HF := Lib.hid hF
  have hl1 : decide ((4000 : Int) < (n2.size : Int)) = true := decide_eq_true (by omega)
  clear hF hl
  subst hsl h0
  · go_enter Tryz.func127, Tryz.ntmps127
    go_wp2_with (first
      | (go_at_call 169; (obtain ⟨mx, hmx⟩ := max_of (HR.out.below HB0.out); refine (Tryz.strings_Cut s ⟨#[47]⟩ mx _ (by omega) hmx).mono ?_; rintro e w1 ⟨rfl, k, hw1⟩; rw [show Lib.cut s.data.toList (⟨#[47]⟩ : ByteArray).data.toList = _ from HC.out]; dsimp only; rw [beta_ba, beta_ba]; have HB1 := Lib.hid (show Below w.heap.size w w1 by rw [hw1]; exact below_drewN HB0.out); have HP1 := Lib.hid (show Blk w1 w.heap.size 160 #[.bool false, .slice none 0 0, .slice none 0 0] by rw [hw1]; exact z_new w); clear hw1 hmx))
      | (go_at_call 170; refine (integer_any a _ (by omega)).mono ?_; rintro e w2 ⟨rfl, hb2⟩; rw [HI.out.1, HI.out.2]; dsimp only; rw [beta_ba]; have HB2 := Lib.hid (HB1.out.trans (hb2.mono HB1.out.size)); have HP2 := Lib.hid (HP1.out.below hb2 HP1.out.lt); obtain ⟨h20, h21, h22, h23, h24, h25⟩ := cells6 HP2.out; clear hb2)
      | (go_at_call 171; refine (form_any b _ (by omega)).mono ?_; rintro e w3 ⟨rfl, hb3⟩; rw [HF.out]; have HB3 := Lib.hid (HB2.out.trans (hb3.mono HB2.out.size)); have HP3 := Lib.hid (HP2.out.below hb3 HP2.out.lt); obtain ⟨h30, h31, h32, h33, h34, h35⟩ := cells6 HP3.out; clear hb3))
    refine ret_frac2 rfl rfl (by simp) (set3 HP3.out) ⟨_, rfl, rfl, ?_⟩
    exact set3_below (g := w.heap.size) HB3.out (Nat.le_refl _)

set_option maxRecDepth 100000 in
set_option maxHeartbeats 2000000 in
theorem parse_long2 (s a b n2 : ByteArray) (m sl ok : Bool) (w : World) (hr : Res w) (hs : s.size ≤ 270000) (ha : a.size ≤ 270000) (hb : b.size ≤ 270000) (hn : n2.size ≤ 270000) (hc : Lib.cut s.data.toList [47] = (a.data.toList, b.data.toList, sl))
    (hi : intP a.data.toList = (m, n2.data.toList)) (hok : intOk a.data.toList = ok) (hsl : sl = true) (h0 : ok = true) (z0 : (n2.toList == [48]) = false) (hF : NForm b.data.toList = true) (z1 : (b.toList == [48]) = false) (z2 : (b.toList == [49]) = false) (hl : n2.size ≤ 4000) (hm : 4000 < b.size) :
    Calls Tryz.prog 127 #[.string s] w fun e w' => ∃ v, v = zV ∧ e = .returned (.tuple #[v, .int .i64 5]) ∧ Below w.heap.size w w' := by
  have HR := Lib.hid hr
  have HC := Lib.hid hc
  have HI := Lib.hid (And.intro hi hok)
  have HB0 := Lib.hid ((Below.refl w.heap.size w).alloc (Nat.le_refl _) zF)
  have TK1 : True := trivial
  clear hr hc hi hok
  have HF := Lib.hid hF
  have hl1 : decide ((4000 : Int) < (n2.size : Int)) = false := decide_eq_false (by omega)
  have hl2 : decide ((4000 : Int) < (b.size : Int)) = true := decide_eq_true (by omega)
  clear hF hl hm
  subst hsl h0
  · go_enter Tryz.func127, Tryz.ntmps127
    go_wp2_with (first
      | (go_at_call 169; (obtain ⟨mx, hmx⟩ := max_of (HR.out.below HB0.out); refine (Tryz.strings_Cut s ⟨#[47]⟩ mx _ (by omega) hmx).mono ?_; rintro e w1 ⟨rfl, k, hw1⟩; rw [show Lib.cut s.data.toList (⟨#[47]⟩ : ByteArray).data.toList = _ from HC.out]; dsimp only; rw [beta_ba, beta_ba]; have HB1 := Lib.hid (show Below w.heap.size w w1 by rw [hw1]; exact below_drewN HB0.out); have HP1 := Lib.hid (show Blk w1 w.heap.size 160 #[.bool false, .slice none 0 0, .slice none 0 0] by rw [hw1]; exact z_new w); clear hw1 hmx))
      | (go_at_call 170; refine (integer_any a _ (by omega)).mono ?_; rintro e w2 ⟨rfl, hb2⟩; rw [HI.out.1, HI.out.2]; dsimp only; rw [beta_ba]; have HB2 := Lib.hid (HB1.out.trans (hb2.mono HB1.out.size)); have HP2 := Lib.hid (HP1.out.below hb2 HP1.out.lt); obtain ⟨h20, h21, h22, h23, h24, h25⟩ := cells6 HP2.out; clear hb2)
      | (go_at_call 171; refine (form_any b _ (by omega)).mono ?_; rintro e w3 ⟨rfl, hb3⟩; rw [HF.out]; have HB3 := Lib.hid (HB2.out.trans (hb3.mono HB2.out.size)); have HP3 := Lib.hid (HP2.out.below hb3 HP2.out.lt); obtain ⟨h30, h31, h32, h33, h34, h35⟩ := cells6 HP3.out; clear hb3))
    refine ret_frac2 rfl rfl (by simp) (set3 HP3.out) ⟨_, rfl, rfl, ?_⟩
    exact set3_below (g := w.heap.size) HB3.out (Nat.le_refl _)

set_option maxRecDepth 100000 in
set_option maxHeartbeats 2000000 in
theorem parse_gcd (s a b n2 : ByteArray) (m sl ok : Bool) (w : World) (hr : Res w) (hs : s.size ≤ 270000) (ha : a.size ≤ 270000) (hb : b.size ≤ 270000) (hn : n2.size ≤ 270000) (hc : Lib.cut s.data.toList [47] = (a.data.toList, b.data.toList, sl))
    (hi : intP a.data.toList = (m, n2.data.toList)) (hok : intOk a.data.toList = ok) (hsl : sl = true) (h0 : ok = true) (z0 : (n2.toList == [48]) = false) (hF : NForm b.data.toList = true) (z1 : (b.toList == [48]) = false) (z2 : (b.toList == [49]) = false) (hl : n2.size ≤ 4000) (hm : b.size ≤ 4000) (hd : Dg n2.data.toList) (hd' : Dg b.data.toList) (ll : (toL (dv n2.data.toList)).length ≤ 30000 ∧ (toL (dv b.data.toList)).length ≤ 30000) (hg : (dv n2.data.toList).gcd (dv b.data.toList) ≠ 1) :
    Calls Tryz.prog 127 #[.string s] w fun e w' => ∃ v, v = zV ∧ e = .returned (.tuple #[v, .int .i64 3]) ∧ Below w.heap.size w w' := by
  have HR := Lib.hid hr
  have HC := Lib.hid hc
  have HI := Lib.hid (And.intro hi hok)
  have HB0 := Lib.hid ((Below.refl w.heap.size w).alloc (Nat.le_refl _) zF)
  have TK1 : True := trivial
  clear hr hc hi hok
  have HF := Lib.hid hF
  have hl1 : decide ((4000 : Int) < (n2.size : Int)) = false := decide_eq_false (by omega)
  have hl2 : decide ((4000 : Int) < (b.size : Int)) = false := decide_eq_false (by omega)
  have HG := Lib.hid (And.intro hd hd')
  have HLL := Lib.hid ll
  clear hF hl hm hd hd' ll
  have HGC := Lib.hid (decide_eq_false hg)
  clear hg
  subst hsl h0
  · go_enter Tryz.func127, Tryz.ntmps127
    go_wp2_with (first
      | (go_at_call 169; (obtain ⟨mx, hmx⟩ := max_of (HR.out.below HB0.out); refine (Tryz.strings_Cut s ⟨#[47]⟩ mx _ (by omega) hmx).mono ?_; rintro e w1 ⟨rfl, k, hw1⟩; rw [show Lib.cut s.data.toList (⟨#[47]⟩ : ByteArray).data.toList = _ from HC.out]; dsimp only; rw [beta_ba, beta_ba]; have HB1 := Lib.hid (show Below w.heap.size w w1 by rw [hw1]; exact below_drewN HB0.out); have HP1 := Lib.hid (show Blk w1 w.heap.size 160 #[.bool false, .slice none 0 0, .slice none 0 0] by rw [hw1]; exact z_new w); clear hw1 hmx))
      | (go_at_call 170; refine (integer_any a _ (by omega)).mono ?_; rintro e w2 ⟨rfl, hb2⟩; rw [HI.out.1, HI.out.2]; dsimp only; rw [beta_ba]; have HB2 := Lib.hid (HB1.out.trans (hb2.mono HB1.out.size)); have HP2 := Lib.hid (HP1.out.below hb2 HP1.out.lt); obtain ⟨h20, h21, h22, h23, h24, h25⟩ := cells6 HP2.out; clear hb2)
      | (go_at_call 171; refine (form_any b _ (by omega)).mono ?_; rintro e w3 ⟨rfl, hb3⟩; rw [HF.out]; have HB3 := Lib.hid (HB2.out.trans (hb3.mono HB2.out.size)); have HP3 := Lib.hid (HP2.out.below hb3 HP2.out.lt); obtain ⟨h30, h31, h32, h33, h34, h35⟩ := cells6 HP3.out; clear hb3)
      | (clear TK1; go_at_call 172; refine (parse_any n2 _ HG.out.1 (by omega)).mono ?_; rintro e w4 ⟨v4, rfl, hv4, hb4⟩; obtain ⟨A4, c4, rfl, _, _, _⟩ := id hv4; have HV4 := Lib.hid hv4; have HB4 := Lib.hid (HB3.out.trans (hb4.mono HB3.out.size)); have HP4 := Lib.hid (HP3.out.below hb4 HP3.out.lt); clear hv4 hb4)
      | (go_at_call 172; refine (parse_any b _ HG.out.2 (by first | omega | decide)).mono ?_; rintro e w5 ⟨v5, rfl, hv5, hb5⟩; obtain ⟨A5, c5, rfl, _, _, _⟩ := id hv5; have HV5 := Lib.hid hv5; have HV4' := Lib.hid (HV4.out.below hb5); have HB5 := Lib.hid (HB4.out.trans (hb5.mono HB4.out.size)); have HP5 := Lib.hid (HP4.out.below hb5 HP4.out.lt); obtain ⟨h50, h51, h52, h53, h54, h55⟩ := cells6A HP5.out; clear hv5 hb5)
      | (go_at_call 173; have HX5 := Lib.hid ((Below.refl w5.heap.size w5).alloc (Nat.le_refl _) (.cells #[.bool m, .slice A4 (toL (dv n2.data.toList)).length c4, .slice A5 (toL (dv b.data.toList)).length c5] 160)); refine (gcd_any (dv n2.data.toList) (dv b.data.toList) _ _ _ (HV4'.out.below HX5.out) (HV5.out.below HX5.out) HLL.out.1 HLL.out.2).mono ?_; rintro e w6 ⟨v6, rfl, hv6, hb6⟩; have HV6 := Lib.hid hv6; have HX6 := Lib.hid (HX5.out.trans (hb6.mono HX5.out.size)); have HP6 := Lib.hid (HP5.out.below HX6.out HP5.out.lt); have HT6 := Lib.hid ((Blk.new w5 _ _).below hb6 (by simp)); obtain ⟨h60, h61, h62, h63, h64, h65⟩ := cells6 HP6.out; obtain ⟨t60, t61, t62⟩ := rows_of HT6.out (Below.refl w6.heap.size w6) HT6.out.lt; clear hv6 hb6)
      | (go_at_call 168; refine (one_any ((dv n2.data.toList).gcd (dv b.data.toList)) _ _ HV6.out).mono ?_; rintro e w7 ⟨rfl, hw7⟩; subst hw7; rw [HGC.out]))
    refine ret_frac2 rfl rfl (by simp) (set3 HP6.out) ⟨_, rfl, rfl, ?_⟩
    exact set3_below (g := w.heap.size) (HB5.out.trans (HX6.out.mono HB5.out.size)) (Nat.le_refl _)

set_option maxRecDepth 100000 in
set_option maxHeartbeats 2000000 in
theorem parse_ok (s a b n2 : ByteArray) (m sl ok : Bool) (w : World) (hr : Res w) (hs : s.size ≤ 270000) (ha : a.size ≤ 270000) (hb : b.size ≤ 270000) (hn : n2.size ≤ 270000) (hc : Lib.cut s.data.toList [47] = (a.data.toList, b.data.toList, sl))
    (hi : intP a.data.toList = (m, n2.data.toList)) (hok : intOk a.data.toList = ok) (hsl : sl = true) (h0 : ok = true) (z0 : (n2.toList == [48]) = false) (hF : NForm b.data.toList = true) (z1 : (b.toList == [48]) = false) (z2 : (b.toList == [49]) = false) (hl : n2.size ≤ 4000) (hm : b.size ≤ 4000) (hd : Dg n2.data.toList) (hd' : Dg b.data.toList) (ll : (toL (dv n2.data.toList)).length ≤ 30000 ∧ (toL (dv b.data.toList)).length ≤ 30000) (hg : (dv n2.data.toList).gcd (dv b.data.toList) = 1) :
    Calls Tryz.prog 127 #[.string s] w fun e w' => ∃ v, e = .returned (.tuple #[v, .int .i64 0]) ∧ IsParts w' v m (dv n2.data.toList) (dv b.data.toList) ∧ Below w.heap.size w w' := by
  have HR := Lib.hid hr
  have HC := Lib.hid hc
  have HI := Lib.hid (And.intro hi hok)
  have HB0 := Lib.hid ((Below.refl w.heap.size w).alloc (Nat.le_refl _) zF)
  have TK1 : True := trivial
  clear hr hc hi hok
  have HF := Lib.hid hF
  have hl1 : decide ((4000 : Int) < (n2.size : Int)) = false := decide_eq_false (by omega)
  have hl2 : decide ((4000 : Int) < (b.size : Int)) = false := decide_eq_false (by omega)
  have HG := Lib.hid (And.intro hd hd')
  have HLL := Lib.hid ll
  clear hF hl hm hd hd' ll
  have HGC := Lib.hid (decide_eq_true hg)
  clear hg
  subst hsl h0
  · go_enter Tryz.func127, Tryz.ntmps127
    go_wp2_with (first
      | (go_at_call 169; (obtain ⟨mx, hmx⟩ := max_of (HR.out.below HB0.out); refine (Tryz.strings_Cut s ⟨#[47]⟩ mx _ (by omega) hmx).mono ?_; rintro e w1 ⟨rfl, k, hw1⟩; rw [show Lib.cut s.data.toList (⟨#[47]⟩ : ByteArray).data.toList = _ from HC.out]; dsimp only; rw [beta_ba, beta_ba]; have HB1 := Lib.hid (show Below w.heap.size w w1 by rw [hw1]; exact below_drewN HB0.out); have HP1 := Lib.hid (show Blk w1 w.heap.size 160 #[.bool false, .slice none 0 0, .slice none 0 0] by rw [hw1]; exact z_new w); clear hw1 hmx))
      | (go_at_call 170; refine (integer_any a _ (by omega)).mono ?_; rintro e w2 ⟨rfl, hb2⟩; rw [HI.out.1, HI.out.2]; dsimp only; rw [beta_ba]; have HB2 := Lib.hid (HB1.out.trans (hb2.mono HB1.out.size)); have HP2 := Lib.hid (HP1.out.below hb2 HP1.out.lt); obtain ⟨h20, h21, h22, h23, h24, h25⟩ := cells6 HP2.out; clear hb2)
      | (go_at_call 171; refine (form_any b _ (by omega)).mono ?_; rintro e w3 ⟨rfl, hb3⟩; rw [HF.out]; have HB3 := Lib.hid (HB2.out.trans (hb3.mono HB2.out.size)); have HP3 := Lib.hid (HP2.out.below hb3 HP2.out.lt); obtain ⟨h30, h31, h32, h33, h34, h35⟩ := cells6 HP3.out; clear hb3)
      | (clear TK1; go_at_call 172; refine (parse_any n2 _ HG.out.1 (by omega)).mono ?_; rintro e w4 ⟨v4, rfl, hv4, hb4⟩; obtain ⟨A4, c4, rfl, _, _, _⟩ := id hv4; have HV4 := Lib.hid hv4; have HB4 := Lib.hid (HB3.out.trans (hb4.mono HB3.out.size)); have HP4 := Lib.hid (HP3.out.below hb4 HP3.out.lt); clear hv4 hb4)
      | (go_at_call 172; refine (parse_any b _ HG.out.2 (by first | omega | decide)).mono ?_; rintro e w5 ⟨v5, rfl, hv5, hb5⟩; obtain ⟨A5, c5, rfl, _, _, _⟩ := id hv5; have HV5 := Lib.hid hv5; have HV4' := Lib.hid (HV4.out.below hb5); have HB5 := Lib.hid (HB4.out.trans (hb5.mono HB4.out.size)); have HP5 := Lib.hid (HP4.out.below hb5 HP4.out.lt); obtain ⟨h50, h51, h52, h53, h54, h55⟩ := cells6A HP5.out; clear hv5 hb5)
      | (go_at_call 173; have HX5 := Lib.hid ((Below.refl w5.heap.size w5).alloc (Nat.le_refl _) (.cells #[.bool m, .slice A4 (toL (dv n2.data.toList)).length c4, .slice A5 (toL (dv b.data.toList)).length c5] 160)); refine (gcd_any (dv n2.data.toList) (dv b.data.toList) _ _ _ (HV4'.out.below HX5.out) (HV5.out.below HX5.out) HLL.out.1 HLL.out.2).mono ?_; rintro e w6 ⟨v6, rfl, hv6, hb6⟩; have HV6 := Lib.hid hv6; have HX6 := Lib.hid (HX5.out.trans (hb6.mono HX5.out.size)); have HP6 := Lib.hid (HP5.out.below HX6.out HP5.out.lt); have HT6 := Lib.hid ((Blk.new w5 _ _).below hb6 (by simp)); obtain ⟨h60, h61, h62, h63, h64, h65⟩ := cells6 HP6.out; obtain ⟨t60, t61, t62⟩ := rows_of HT6.out (Below.refl w6.heap.size w6) HT6.out.lt; clear hv6 hb6)
      | (go_at_call 168; refine (one_any ((dv n2.data.toList).gcd (dv b.data.toList)) _ _ HV6.out).mono ?_; rintro e w7 ⟨rfl, hw7⟩; subst hw7; rw [HGC.out]))
    refine ret_frac2 rfl rfl (by simp) (set3 HP6.out) ⟨_, rfl, ?_, ?_⟩
    · exact isParts_mk (isNat_set3 (HV4'.out.below HX6.out) HP6.out) (isNat_set3 (HV5.out.below HX6.out) HP6.out)
    · exact set3_below (g := w.heap.size) (HB5.out.trans (HX6.out.mono HB5.out.size)) (Nat.le_refl _)

end Go.Proofs.YtbfhonhjejeaiaaGreatDoor
namespace Go.Proofs.YtbfhonhjejeaiaaGreatDoor
open Go.RowKit Go.Shelf
open Lim

/-- The error of a text that should be a natural number. -/
def errN (l : List UInt8) : Nat := if NForm l = true then (if 4000 < l.length then 5 else 0) else 3

set_option maxRecDepth 100000 in
set_option maxHeartbeats 2000000 in
theorem rcheck_any (s : ByteArray) (w : World) (hlen : s.size ≤ 9223372036854775807) :
    Calls Tryz.prog 177 #[.string s] w fun e w' => e = .returned (.int .i64 (errN s.data.toList : Int)) ∧ w' = w := by
  have hl := Lib.toList_data s
  by_cases h1 : s.data.toList = []
  · have e1 : s.toList.isEmpty = true := by rw [hl, h1]; rfl
    have e2 : errN s.data.toList = 3 := by rw [h1]; rfl
    rw [e2]
    clear hl h1 e2
    go_enter Tryz.func177, Tryz.ntmps177
    go_wp2
    go_ret
    exact ⟨rfl, rfl⟩
  · have e1 : s.toList.isEmpty = false := by rw [hl, List.isEmpty_eq_false_iff]; exact h1
    have hpos : 0 < s.size := by rw [size_list]; exact List.length_pos_iff.2 h1
    have hszl := size_list s
    have hmax : s.size ≤ 9223372036854775807 ∨ 9223372036854775807 < s.size := by omega
    have hs0 : s[0] = s.data.toList[0]'(by rw [← size_list]; exact hpos) := by rw [Array.getElem_toList]; rfl
    have hhead : s.data.toList.head? = some s[0] := by rw [hs0, List.head?_eq_getElem?, List.getElem?_eq_getElem]
    have hnf : NForm s.data.toList = ((s.data.toList == [48] || s.data.toList.head? != some 48) && s.data.toList.all isD) := by
      unfold NForm
      rw [List.isEmpty_eq_false_iff.2 h1]
      rfl
    by_cases hbad : s[0] = 48 ∧ 1 < s.size
    · have h3 : (s[0].toNat : Int) = 48 := by rw [hbad.1]; rfl
      have h3b : ((s[0].toNat : Int) == 48) = true := by rw [beq_iff_eq]; exact h3
      have h4 : (1 : Int) < (s.size : Int) := by omega
      have e2 : errN s.data.toList = 3 := by
        unfold errN
        rw [hnf, hhead, hbad.1]
        have : (s.data.toList == [48]) = false := by
          rw [beq_eq_false_iff_ne]
          intro e
          rw [hszl, e] at hbad
          simp at hbad
        rw [this]
        rfl
      rw [e2]
      clear hl h1 e2 hnf hhead hs0 hszl hbad
      go_enter Tryz.func177, Tryz.ntmps177
      go_wp2
      go_ret
      exact ⟨rfl, rfl⟩
    · have hgood : (s.data.toList == [48] || s.data.toList.head? != some 48) = true := by
        by_cases h3 : s[0] = 48
        · have hsz1 : s.size = 1 := by
            rcases Nat.lt_or_ge 1 s.size with h | h
            · exact absurd ⟨h3, h⟩ hbad
            · omega
          obtain ⟨c, hc⟩ := List.length_eq_one_iff.1 (hszl ▸ hsz1)
          rw [hc] at hhead
          simp only [List.head?_cons, Option.some.injEq] at hhead
          rw [hc, hhead, h3]
          rfl
        · rw [hhead]
          have : (some s[0] != some (48 : UInt8)) = true := by
            rw [bne_iff_ne]
            intro e
            injection e with e
            exact h3 e
          rw [this, Bool.or_true]
      rw [hgood, Bool.true_and] at hnf
      have HNF := Lib.hid hnf
      have HSL := Lib.hid hszl
      have HGET := Lib.hid (fun (k : Nat) (hk : k < s.size) => show s[k] = s.data.toList[k]'(by rw [← size_list]; exact hk) by rw [Array.getElem_toList]; rfl)
      -- the loop, whichever way it is reached
      have key : ∀ (h3 : ((s[0].toNat : Int) == 48) = true ∧ ¬ (1 : Int) < (s.size : Int) ∨ ((s[0].toNat : Int) == 48) = false),
          Calls Tryz.prog 177 #[.string s] w fun e w' => e = .returned (.int .i64 (errN s.data.toList : Int)) ∧ w' = w := by
        intro h3
        clear hl h1 hnf hhead hs0 hszl hbad hgood hmax
        rcases h3 with ⟨h3, h4⟩ | h3
        all_goals (
          have h3' : (s[0].toNat : Int) = 48 ∨ ¬ (s[0].toNat : Int) = 48 := by omega
          go_enter Tryz.func177, Tryz.ntmps177
          go_wp2
          go_loopw [3] (fun si wr => ∃ k : Nat, k ≤ s.size ∧ si = .int .i64 (k : Int) ∧ (∀ j (hj : j < s.size), j < k → isD s[j] = true) ∧ wr = w) (fun si _ => s.size - (intOf si).toNat)
          case atStart => exact ⟨0, Nat.zero_le _, rfl, fun j _ h => absurd h (Nat.not_lt_zero _), rfl⟩
          case round =>
            obtain ⟨k, hk, rfl, hdk, rfl⟩ := hrel
            have HDK := Lib.hid hdk
            clear hdk h3 h3'
            by_cases hlt : k < s.size
            · have hlt' : (k : Int) < (s.size : Int) := by omega
              by_cases hlo : s[k].toNat < 48
              · have d1 : decide ((s[k].toNat : Int) < 48) = true := decide_eq_true (by omega)
                have e2 : errN s.data.toList = 3 := by
                  unfold errN
                  rw [HNF.out, if_neg]
                  intro h
                  rw [List.all_eq_true] at h
                  have h5 := isD_iff.1 (h _ (List.getElem_mem (by rw [← size_list]; exact hlt)))
                  rw [← HGET.out k hlt] at h5
                  omega
                have HE := Lib.hid e2
                clear e2 hlo
                go_wp2
                go_ret
                exact ⟨ret_eq (int_eq (by rw [HE.out]; rfl)), rfl⟩
              · have d1 : decide ((s[k].toNat : Int) < 48) = false := decide_eq_false (by omega)
                by_cases hhi : 57 < s[k].toNat
                · have d2 : decide ((57 : Int) < (s[k].toNat : Int)) = true := decide_eq_true (by omega)
                  have e2 : errN s.data.toList = 3 := by
                    unfold errN
                    rw [HNF.out, if_neg]
                    intro h
                    rw [List.all_eq_true] at h
                    have h5 := isD_iff.1 (h _ (List.getElem_mem (by rw [← size_list]; exact hlt)))
                    rw [← HGET.out k hlt] at h5
                    omega
                  have HE := Lib.hid e2
                  clear e2 hlo hhi
                  go_wp2
                  go_ret
                  exact ⟨ret_eq (int_eq (by rw [HE.out]; rfl)), rfl⟩
                · have d2 : decide ((57 : Int) < (s[k].toNat : Int)) = false := decide_eq_false (by omega)
                  have hdig : isD s[k] = true := isD_iff.2 ⟨by omega, by omega⟩
                  have HDG := Lib.hid hdig
                  clear hdig hlo hhi
                  go_wp2
                  go_roundw
                  case rel =>
                    refine ⟨k + 1, hlt, by go_num, fun j hj hjk => ?_, trivial⟩
                    by_cases e : j = k
                    · subst e; exact HDG.out
                    · exact HDK.out j hj (by omega)
                  case measure => simp [intOf]; omega
            · have hlt' : ¬ (k : Int) < (s.size : Int) := by omega
              have hall : s.data.toList.all isD = true := by
                rw [List.all_eq_true]
                intro b hb
                obtain ⟨j, hj, rfl⟩ := List.getElem_of_mem hb
                have hj2 : j < s.size := by rw [size_list]; exact hj
                rw [← HGET.out j hj2]
                exact HDK.out j hj2 (by omega)
              by_cases hbig : 4000 < s.size
              · have hbig' : (4000 : Int) < (s.size : Int) := by omega
                have e2 : errN s.data.toList = 5 := by
                  unfold errN
                  rw [HNF.out, if_pos hall, if_pos (by rw [← size_list]; exact hbig)]
                have HE := Lib.hid e2
                clear e2 hall
                go_wp2
                go_ret
                exact ⟨ret_eq (int_eq (by rw [HE.out]; rfl)), rfl⟩
              · have hbig' : ¬ (4000 : Int) < (s.size : Int) := by omega
                have e2 : errN s.data.toList = 0 := by
                  unfold errN
                  rw [HNF.out, if_pos hall, if_neg (by rw [← size_list]; exact hbig)]
                have HE := Lib.hid e2
                clear e2 hall
                go_wp2
                go_ret
                exact ⟨ret_eq (int_eq (by rw [HE.out]; rfl)), rfl⟩)
      by_cases h3 : s[0] = 48
      · refine key (.inl ⟨by rw [h3]; rfl, ?_⟩)
        intro h
        exact hbad ⟨h3, by omega⟩
      · refine key (.inr ?_)
        rw [beq_eq_false_iff_ne]
        intro e
        apply h3
        apply UInt8.toNat_inj.1
        show s[0].toNat = 48
        omega
end Go.Proofs.YtbfhonhjejeaiaaGreatDoor
namespace Go.Proofs.YtbfhonhjejeaiaaGreatDoor
open Go.RowKit Go.Shelf
open Lim

theorem isFrac_low {w : World} {v : Value} {m : Bool} {n d : Nat} (hd : d ≠ 0) (hg : n.gcd d = 1) (hm : m = true → n ≠ 0) (h : IsParts w v m n d) : IsFrac w v (mkQ m n d) := by
  obtain ⟨h1, h2, h3⟩ := mkQ_low (m := m) hd hg
  unfold IsFrac
  rw [h1, h2, h3]
  have : (m && decide (n ≠ 0)) = m := by
    cases m with
    | false => rfl
    | true => simpa using hm rfl
  rw [this]
  exact h
theorem cutQ_le (l : List UInt8) : (cutQ l).1.length ≤ l.length ∧ ((cutQ l).2.getD []).length ≤ l.length := by
  rcases cutQ_cases l with ⟨a, r, rfl, hn⟩ | hn
  · rw [cutQ_slash hn]; simp; omega
  · rw [cutQ_none hn]; simp
theorem digits_of_form {l : List UInt8} (h : NForm l = true) : Lib.nDigits (dv l) = l.length := by
  have e := NForm.eq h
  conv => rhs; rw [← e]
  rw [Lib.decDigits_length]
theorem limbs_of_form {l : List UInt8} (h : NForm l = true) {k : Nat} (hk : l.length ≤ 9 * k) : (toL (dv l)).length ≤ k := by
  refine limbs_of_nd (Nat.le_refl _) ?_
  rw [digits_of_form h]
  exact hk

/-- frac.Parse. -/
theorem fparse_any (s : ByteArray) (w : World) (hlen : s.size ≤ 270000) (hr : Res w) :
    Calls Tryz.prog 127 #[.string s] w fun e w' => ∃ v, e = .returned (.tuple #[v, .int .i64 (errQ s.data.toList : Int)]) ∧ (errQ s.data.toList = 0 → IsFrac w' v (valQ s.data.toList)) ∧ (errQ s.data.toList ≠ 0 → v = zV) ∧ Below w.heap.size w w' := by
  have hcut := cut_eq s.data.toList
  obtain ⟨hle1, hle2⟩ := cutQ_le s.data.toList
  rw [← size_list] at hle1 hle2
  have hE : errQ s.data.toList = match shapeQ s.data.toList with | none => 3 | some (_, n, d, sl) => if maxD < Lib.nDigits n ∨ maxD < Lib.nDigits d then 5 else if sl && n.gcd d != 1 then 3 else 0 := rfl
  have hV : valQ s.data.toList = match shapeQ s.data.toList with | none => 0 | some (m, n, d, _) => mkQ m n d := rfl
  have hS : shapeQ s.data.toList = if intOk (cutQ s.data.toList).1 then match (cutQ s.data.toList).2 with | none => some ((intP (cutQ s.data.toList).1).1, dv (intP (cutQ s.data.toList).1).2, 1, false) | some d => if (intP (cutQ s.data.toList).1).2 != [48] && (NForm d && (d != [48] && d != [49])) then some ((intP (cutQ s.data.toList).1).1, dv (intP (cutQ s.data.toList).1).2, dv d, true) else none else none := rfl
  have hTS : ∀ m n d sl, shapeQ s.data.toList = some (m, n, d, sl) → (m = true → n ≠ 0) ∧ d ≠ 0 := fun m n d sl h => ⟨(text_of_shape h).2.1, (text_of_shape h).2.2.1⟩
  generalize cutQ s.data.toList = c at *
  obtain ⟨la, ob⟩ := c
  dsimp only at hcut hle1 hle2 hS
  have hip : intP la = ((intP la).1, (intP la).2) := rfl
  have hile := intP_le la
  have hokf : intOk la = true → NForm (intP la).2 = true := fun h => by
    unfold intOk at h
    simp only [Bool.and_eq_true] at h
    exact h.1
  generalize hm : (intP la).1 = m at *
  generalize hl : (intP la).2 = ln at *
  have err : ∀ k : Nat, k ≠ 0 → errQ s.data.toList = k → Calls Tryz.prog 127 #[.string s] w (fun e w' => ∃ v, v = zV ∧ e = .returned (.tuple #[v, .int .i64 (k : Int)]) ∧ Below w.heap.size w w') →
      Calls Tryz.prog 127 #[.string s] w fun e w' => ∃ v, e = .returned (.tuple #[v, .int .i64 (errQ s.data.toList : Int)]) ∧ (errQ s.data.toList = 0 → IsFrac w' v (valQ s.data.toList)) ∧ (errQ s.data.toList ≠ 0 → v = zV) ∧ Below w.heap.size w w' := fun k hk he h => by
    rw [he]
    exact h.mono fun e w' ⟨v, hz, h1, h2⟩ => ⟨v, h1, fun h0 => absurd h0 hk, fun _ => hz, h2⟩
  have good : ∀ (n d : Nat) (sl : Bool), shapeQ s.data.toList = some (m, n, d, sl) → errQ s.data.toList = 0 → n.gcd d = 1 → Calls Tryz.prog 127 #[.string s] w (fun e w' => ∃ v, e = .returned (.tuple #[v, .int .i64 0]) ∧ IsParts w' v m n d ∧ Below w.heap.size w w') →
      Calls Tryz.prog 127 #[.string s] w fun e w' => ∃ v, e = .returned (.tuple #[v, .int .i64 (errQ s.data.toList : Int)]) ∧ (errQ s.data.toList = 0 → IsFrac w' v (valQ s.data.toList)) ∧ (errQ s.data.toList ≠ 0 → v = zV) ∧ Below w.heap.size w w' := fun n d sl hs he hg h => by
    rw [he]
    refine h.mono fun e w' ⟨v, h1, h2, h3⟩ => ⟨v, h1, fun _ => ?_, fun h => absurd rfl h, h3⟩
    rw [hV, hs]
    obtain ⟨t1, t2⟩ := hTS _ _ _ _ hs
    exact isFrac_low t2 hg t1 h2
  have hsz : ∀ l : List UInt8, (⟨l.toArray⟩ : ByteArray).size = l.length := fun l => List.size_toArray
  have htl : ∀ l : List UInt8, (⟨l.toArray⟩ : ByteArray).toList = l := fun l => by rw [Lib.toList_data]
  have hA : (⟨la.toArray⟩ : ByteArray).size ≤ 270000 := by rw [hsz]; omega
  have hN : (⟨ln.toArray⟩ : ByteArray).size ≤ 270000 := by rw [hsz]; omega
  by_cases hok : intOk la = true
  · have hnf := hokf hok
    rw [if_pos hok] at hS
    have hnd := digits_of_form hnf
    cases ob with
    | none =>
      dsimp only at hS hcut
      have hsp := hS
      rw [hS] at hE
      dsimp only at hE
      rw [hnd, Lib.nDigits_small (by omega : 1 < 10)] at hE
      by_cases hlong : 4000 < ln.length
      · rw [if_pos (.inl hlong)] at hE
        exact err 5 (by decide) hE (parse_long_none s ⟨la.toArray⟩ ⟨#[]⟩ ⟨ln.toArray⟩ m _ _ w hr hlen hA (by decide) hN hcut hip hok rfl rfl (by rw [hsz]; exact hlong))
      · rw [if_neg (by unfold maxD; omega)] at hE
        refine good _ _ _ hsp (by rw [hE]; rfl) (Nat.gcd_one_right _) ?_
        exact parse_ok_none s ⟨la.toArray⟩ ⟨#[]⟩ ⟨ln.toArray⟩ m _ _ w hr hlen hA (by decide) hN hcut hip hok rfl rfl (by rw [hsz]; omega) (dg_of_form hnf)
    | some d =>
      dsimp only [Option.getD] at hS hcut hle2
      have hB : (⟨d.toArray⟩ : ByteArray).size ≤ 270000 := by rw [hsz]; omega
      by_cases z0 : (ln == [48]) = true
      · rw [if_neg (by simp [bne, z0])] at hS
        rw [hS] at hE
        exact err 3 (by decide) hE (parse_bad2 s ⟨la.toArray⟩ ⟨d.toArray⟩ ⟨ln.toArray⟩ m _ _ w hr hlen hA hB hN hcut hip hok rfl rfl (by rw [htl]; exact z0))
      have z0 : (ln == [48]) = false := by simpa using z0
      by_cases hF : NForm d = false
      · rw [if_neg (by simp [hF])] at hS
        rw [hS] at hE
        exact err 3 (by decide) hE (parse_bad3 s ⟨la.toArray⟩ ⟨d.toArray⟩ ⟨ln.toArray⟩ m _ _ w hr hlen hA hB hN hcut hip hok rfl rfl (by rw [htl]; exact z0) hF)
      have hF : NForm d = true := by simpa using hF
      by_cases z1 : (d == [48]) = true
      · rw [if_neg (by simp [bne, z1])] at hS
        rw [hS] at hE
        exact err 3 (by decide) hE (parse_bad4 s ⟨la.toArray⟩ ⟨d.toArray⟩ ⟨ln.toArray⟩ m _ _ w hr hlen hA hB hN hcut hip hok rfl rfl (by rw [htl]; exact z0) hF (by rw [htl]; exact z1))
      have z1 : (d == [48]) = false := by simpa using z1
      by_cases z2 : (d == [49]) = true
      · rw [if_neg (by simp [bne, z2])] at hS
        rw [hS] at hE
        exact err 3 (by decide) hE (parse_bad5 s ⟨la.toArray⟩ ⟨d.toArray⟩ ⟨ln.toArray⟩ m _ _ w hr hlen hA hB hN hcut hip hok rfl rfl (by rw [htl]; exact z0) hF (by rw [htl]; exact z1) (by rw [htl]; exact z2))
      have z2 : (d == [49]) = false := by simpa using z2
      rw [if_pos (by simp only [bne, z0, hF, z1, z2]; rfl)] at hS
      have hsp := hS
      rw [hS] at hE
      dsimp only at hE
      rw [hnd, digits_of_form hF] at hE
      by_cases hlong : 4000 < ln.length
      · rw [if_pos (.inl hlong)] at hE
        exact err 5 (by decide) hE (parse_long1 s ⟨la.toArray⟩ ⟨d.toArray⟩ ⟨ln.toArray⟩ m _ _ w hr hlen hA hB hN hcut hip hok rfl rfl (by rw [htl]; exact z0) hF (by rw [htl]; exact z1) (by rw [htl]; exact z2) (by rw [hsz]; exact hlong))
      by_cases hlong2 : 4000 < d.length
      · rw [if_pos (.inr hlong2)] at hE
        exact err 5 (by decide) hE (parse_long2 s ⟨la.toArray⟩ ⟨d.toArray⟩ ⟨ln.toArray⟩ m _ _ w hr hlen hA hB hN hcut hip hok rfl rfl (by rw [htl]; exact z0) hF (by rw [htl]; exact z1) (by rw [htl]; exact z2) (by rw [hsz]; omega) (by rw [hsz]; exact hlong2))
      rw [if_neg (by unfold maxD; omega)] at hE
      have hll : (toL (dv ln)).length ≤ 30000 ∧ (toL (dv d)).length ≤ 30000 := ⟨Nat.le_trans (limbs_of_form hnf (k := 500) (by omega)) (by omega), Nat.le_trans (limbs_of_form hF (k := 500) (by omega)) (by omega)⟩
      by_cases hg : (dv ln).gcd (dv d) = 1
      · rw [hg] at hE
        refine good _ _ _ hsp (by rw [hE]; rfl) hg ?_
        exact parse_ok s ⟨la.toArray⟩ ⟨d.toArray⟩ ⟨ln.toArray⟩ m _ _ w hr hlen hA hB hN hcut hip hok rfl rfl (by rw [htl]; exact z0) hF (by rw [htl]; exact z1) (by rw [htl]; exact z2) (by rw [hsz]; omega) (by rw [hsz]; omega) (dg_of_form hnf) (dg_of_form hF) hll hg
      · rw [if_pos (by simp [hg])] at hE
        exact err 3 (by decide) hE (parse_gcd s ⟨la.toArray⟩ ⟨d.toArray⟩ ⟨ln.toArray⟩ m _ _ w hr hlen hA hB hN hcut hip hok rfl rfl (by rw [htl]; exact z0) hF (by rw [htl]; exact z1) (by rw [htl]; exact z2) (by rw [hsz]; omega) (by rw [hsz]; omega) (dg_of_form hnf) (dg_of_form hF) hll hg)
  · rw [if_neg hok] at hS
    rw [hS] at hE
    have hok' : intOk la = false := by simpa using hok
    cases ob with
    | none => exact err 3 (by decide) hE (parse_bad_none s ⟨la.toArray⟩ ⟨#[]⟩ ⟨ln.toArray⟩ m _ _ w hr hlen hA (by decide) hN hcut hip hok' rfl rfl)
    | some d => exact err 3 (by decide) hE (parse_bad1 s ⟨la.toArray⟩ ⟨d.toArray⟩ ⟨ln.toArray⟩ m _ _ w hr hlen hA (by rw [hsz]; exact Nat.le_trans hle2 hlen) hN hcut hip hok' rfl rfl)

end Go.Proofs.YtbfhonhjejeaiaaGreatDoor
