/- The functions of rat on texts of numbers. The examples that each statement asks first; small helpers of the statements. -/
import Derived.Test.YtjoifmnolmimkaaGreatDoorRb11
import Derived.Test.YtjoifmnolmimkaaGreatDoorRb12
namespace Go.Proofs.YtjoifmnolmimkaaGreatDoor
open Go.RowKit Go.Shelf
open Lim

/-- A text of a number that fits. -/
def IsT (a : ByteArray) (q : Rat) : Prop := a = ⟨(ratText q).toArray⟩ ∧ Sz maxD q
theorem IsT.list {a : ByteArray} {q : Rat} (h : IsT a q) : a.data.toList = ratText q := by rw [h.1]
theorem IsT.err {a : ByteArray} {q : Rat} (h : IsT a q) : errQ a.data.toList = 0 := by rw [h.list]; exact errQ_ok h.2 (Nat.le_refl _)
theorem IsT.val {a : ByteArray} {q : Rat} (h : IsT a q) : valQ a.data.toList = q := by rw [h.list, valQ_rat]
theorem IsT.of {a : ByteArray} (h : errQ a.data.toList = 0) : IsT a (valQ a.data.toList) := by
  refine ⟨?_, sz_max h⟩
  rw [← (text_of_ok h).1]
theorem IsT.eq {a b : ByteArray} {q : Rat} (h : IsT a q) (h' : IsT b q) : a = b := by rw [h.1, h'.1]
theorem IsT.inj {a : ByteArray} {p q : Rat} (h : IsT a p) (h' : IsT a q) : p = q := by rw [← h.val, ← h'.val]
theorem IsT.mk {q : Rat} (h : Sz maxD q) : IsT ⟨(ratText q).toArray⟩ q := ⟨rfl, h⟩
theorem ratText_le {q : Rat} {k : Nat} (h : Sz k q) : (ratText q).length ≤ 2 * k + 2 := by
  obtain ⟨h1, h2⟩ := (sz_iff h.pos).1 h
  unfold ratText
  simp only [List.length_append, Lib.decDigits_length]
  have e1 : (if ng q then ([45] : List UInt8) else []).length ≤ 1 := by split <;> simp
  have e2 : (if q.den = 1 then ([] : List UInt8) else 47 :: Lib.decDigits q.den).length ≤ k + 1 := by
    split
    · simp
    · rw [List.length_cons, Lib.decDigits_length]; omega
  omega
theorem IsT.size {a : ByteArray} {q : Rat} (h : IsT a q) : a.size ≤ 270000 := by
  rw [size_list, h.list]
  have := ratText_le h.2
  unfold maxD at this
  omega
theorem one_T {f : Rat → List UInt8 × Nat} {a : ByteArray} {p : Rat} (ha : IsT a p) : oneQ f a.data.toList = f p := by
  unfold oneQ; rw [ha.err, ha.val]; rfl
theorem two_T {f : Rat → Rat → List UInt8 × Nat} {a b : ByteArray} {p q : Rat} (ha : IsT a p) (hb : IsT b q) : twoQ f a.data.toList b.data.toList = f p q := by
  unfold twoQ; rw [ha.err, hb.err, ha.val, hb.val]; rfl
theorem out_T {c : ByteArray} {r : Rat} (hc : IsT c r) : resN (outQ r) = .tuple #[.string c, .int .i64 0] := by
  rw [outQ_ok hc.2 (Nat.le_refl _), hc.1]; rfl
theorem div_T {c : ByteArray} {p q : Rat} (hc : IsT c (p * q⁻¹)) (h : q ≠ 0) : resN (divQ p q) = .tuple #[.string c, .int .i64 0] := by
  unfold divQ; rw [if_neg h, out_T hc]
/-- The texts of small numbers. -/
theorem text_q {m : Bool} {n d : Nat} (hd : d ≠ 0) (hg : n.gcd d = 1) (hm : m = true → n ≠ 0) : ratText (mkQ m n d) = (if m then [45] else []) ++ Lib.decDigits n ++ (if d = 1 then [] else 47 :: Lib.decDigits d) := by
  obtain ⟨h1, h2, h3⟩ := mkQ_low (m := m) hd hg
  have : (m && decide (n ≠ 0)) = m := by
    cases m with
    | false => rfl
    | true => simpa using hm rfl
  unfold ratText
  rw [h1, h2, h3, this]
theorem sz_q {m : Bool} {n d k : Nat} (hd : d ≠ 0) (hn : n < 10 ^ k) (hd' : d < 10 ^ k) : Sz k (mkQ m n d) := ⟨Nat.lt_of_le_of_lt (mkQ_nm_le hd) hn, Nat.lt_of_le_of_lt (mkQ_den_le hd) hd'⟩
theorem isT_small {m : Bool} {n d : Nat} {l : List UInt8} (hd : d ≠ 0) (hg : n.gcd d = 1) (hm : m = true → n ≠ 0) (hn : n < 10) (hd' : d < 10) (hl : (if m then [45] else []) ++ [UInt8.ofNat (48 + n)] ++ (if d = 1 then [] else [47, UInt8.ofNat (48 + d)]) = l) : IsT ⟨l.toArray⟩ (mkQ m n d) := by
  refine ⟨?_, (sz_q (k := 1) hd (by omega) (by omega)).mono (by decide)⟩
  rw [text_q hd hg hm, Lib.decDigits_one hn, Lib.decDigits_one hd', ← hl]
theorem IsT.zero : IsT ⟨#[48]⟩ 0 := by
  have h := isT_small (m := false) (n := 0) (d := 1) (l := [48]) (by decide) (by decide) (by decide) (by decide) (by decide) (by decide)
  rwa [mkQ_zero] at h
theorem IsT.one : IsT ⟨#[49]⟩ 1 := by
  have h := isT_small (m := false) (n := 1) (d := 1) (l := [49]) (by decide) (by decide) (by decide) (by decide) (by decide) (by decide)
  have e : mkQ false 1 1 = 1 := by unfold mkQ; simp; rfl
  rwa [e] at h
theorem IsT.is_zero {a : ByteArray} {q : Rat} (h : IsT a q) : (a.toList == [48]) = decide (q = 0) := by
  by_cases h0 : q = 0
  · subst h0
    rw [h.eq IsT.zero, decide_eq_true rfl, Lib.toList_data]
    rfl
  · rw [decide_eq_false h0, beq_eq_false_iff_ne]
    intro e
    apply h0
    rw [Lib.toList_data] at e
    exact h.inj ⟨by rw [← IsT.zero.1]; exact ByteArray.ext (Array.toList_inj.1 e), Sz.zero.mono (by decide)⟩

section
variable {a b c : ByteArray} {p q : Rat} (w : World)
theorem addT (ha : IsT a p) (hb : IsT b q) (hc : IsT c (p + q)) (hr : Res w) :
    Calls Tryz.prog 17 #[.string a, .string b] w fun e w' => e = .returned (.tuple #[.string c, .int .i64 0]) ∧ Below w.heap.size w w' := by
  refine (ratAdd_any a b w ha.size hb.size hr).mono ?_
  rintro e w' ⟨rfl, h⟩
  rw [two_T ha hb, out_T hc]
  exact ⟨rfl, h⟩
theorem subT (ha : IsT a p) (hb : IsT b q) (hc : IsT c (p + -q)) (hr : Res w) :
    Calls Tryz.prog 19 #[.string a, .string b] w fun e w' => e = .returned (.tuple #[.string c, .int .i64 0]) ∧ Below w.heap.size w w' := by
  refine (ratSub_any a b w ha.size hb.size hr).mono ?_
  rintro e w' ⟨rfl, h⟩
  rw [two_T ha hb, out_T hc]
  exact ⟨rfl, h⟩
theorem mulT (ha : IsT a p) (hb : IsT b q) (hc : IsT c (p * q)) (hr : Res w) :
    Calls Tryz.prog 18 #[.string a, .string b] w fun e w' => e = .returned (.tuple #[.string c, .int .i64 0]) ∧ Below w.heap.size w w' := by
  refine (ratMul_any a b w ha.size hb.size hr).mono ?_
  rintro e w' ⟨rfl, h⟩
  rw [two_T ha hb, out_T hc]
  exact ⟨rfl, h⟩
theorem divT (ha : IsT a p) (hb : IsT b q) (hc : IsT c (p * q⁻¹)) (h0 : q ≠ 0) (hr : Res w) :
    Calls Tryz.prog 22 #[.string a, .string b] w fun e w' => e = .returned (.tuple #[.string c, .int .i64 0]) ∧ Below w.heap.size w w' := by
  refine (ratDiv_any a b w ha.size hb.size hr).mono ?_
  rintro e w' ⟨rfl, h⟩
  rw [two_T ha hb, div_T hc h0]
  exact ⟨rfl, h⟩
theorem invT (ha : IsT a p) (hc : IsT c p⁻¹) (h0 : p ≠ 0) (hr : Res w) :
    Calls Tryz.prog 15 #[.string a] w fun e w' => e = .returned (.tuple #[.string c, .int .i64 0]) ∧ Below w.heap.size w w' := by
  refine (ratInv_any a w ha.size hr).mono ?_
  rintro e w' ⟨rfl, h⟩
  have e1 : twoQ divQ [49] a.data.toList = divQ 1 p := two_T IsT.one ha
  rw [e1, div_T (by rw [Rat.one_mul]; exact hc) h0]
  exact ⟨rfl, h⟩
theorem negT (ha : IsT a p) (hc : IsT c (-p)) (hr : Res w) :
    Calls Tryz.prog 20 #[.string a] w fun e w' => e = .returned (.tuple #[.string c, .int .i64 0]) ∧ Below w.heap.size w w' := by
  refine (ratNeg_any a w ha.size hr).mono ?_
  rintro e w' ⟨rfl, h⟩
  rw [one_T ha, out_T hc]
  exact ⟨rfl, h⟩
theorem absT (ha : IsT a p) (hc : IsT c p.abs) (hr : Res w) :
    Calls Tryz.prog 27 #[.string a] w fun e w' => e = .returned (.tuple #[.string c, .int .i64 0]) ∧ Below w.heap.size w w' := by
  refine (ratAbs_any a w ha.size hr).mono ?_
  rintro e w' ⟨rfl, h⟩
  rw [one_T ha, out_T hc]
  exact ⟨rfl, h⟩
theorem inv_pow (q : Rat) (k : Nat) : (q⁻¹) ^ k = (q ^ k)⁻¹ := by
  induction k with
  | zero => rw [Rat.pow_zero, Rat.pow_zero]; decide +kernel
  | succ k ih => rw [Rat.pow_succ, Rat.pow_succ, ih, Rat.inv_mul_rev, Rat.mul_comm]
theorem powQ_z {q : Rat} {n : Int} (h : ¬ (n < 0 ∧ q = 0)) : powQ q n = outQ (q ^ n) := by
  unfold powQ
  rw [if_neg h]
  congr 1
  split
  · obtain ⟨k, rfl⟩ : ∃ k : Nat, n = -(k : Int) := ⟨n.natAbs, by omega⟩
    rw [Rat.zpow_neg, Rat.zpow_natCast, Int.natAbs_neg, Int.natAbs_natCast, inv_pow]
  · obtain ⟨k, rfl⟩ : ∃ k : Nat, n = (k : Int) := ⟨n.natAbs, by omega⟩
    rw [Rat.zpow_natCast, Int.natAbs_natCast]
theorem powT {n : Int} (ha : IsT a p) (h0 : ¬ (n < 0 ∧ p = 0)) (hc : IsT c (p ^ n)) (h1 : -9223372036854775808 ≤ n) (h2 : n ≤ 9223372036854775807) (hr : Res w) :
    Calls Tryz.prog 14 #[.string a, .int .i64 n] w fun e w' => e = .returned (.tuple #[.string c, .int .i64 0]) ∧ Below w.heap.size w w' := by
  refine (ratPow_any a n w ha.size hr h1 h2).mono ?_
  rintro e w' ⟨rfl, h⟩
  rw [one_T ha, powQ_z h0, out_T hc]
  exact ⟨rfl, h⟩
theorem checkT (ha : IsT a p) (hr : Res w) :
    Calls Tryz.prog 56 #[.string a] w fun e w' => e = .returned (.int .i64 0) ∧ Below w.heap.size w w' := by
  refine (ratCheck_any a w ha.size hr).mono ?_
  rintro e w' ⟨rfl, h⟩
  rw [ha.err]
  exact ⟨rfl, h⟩
theorem refCheckT (ha : IsT a p) :
    Calls Tryz.prog 23 #[.string a] w fun e w' => e = .returned (.int .i64 0) ∧ Below w.heap.size w w' := by
  refine (refCheck_any a w ha.size).mono ?_
  rintro e w' ⟨rfl, h⟩
  rw [ha.err]
  exact ⟨rfl, h⟩
end
theorem Sz.zpow {j : Nat} {q : Rat} (h : Sz j q) (n : Int) : Sz (j * n.natAbs + 1) (q ^ n) := by
  by_cases hn : n < 0
  · obtain ⟨k, rfl⟩ : ∃ k : Nat, n = -(k : Int) := ⟨n.natAbs, by omega⟩
    rw [Rat.zpow_neg, Rat.zpow_natCast, Int.natAbs_neg, Int.natAbs_natCast]
    exact (h.pow k).inv
  · obtain ⟨k, rfl⟩ : ∃ k : Nat, n = (k : Int) := ⟨n.natAbs, by omega⟩
    rw [Rat.zpow_natCast, Int.natAbs_natCast]
    exact h.pow k
theorem zpow_ne {q : Rat} (h : q ≠ 0) (n : Int) : q ^ n ≠ 0 := by
  intro e
  have := Rat.zpow_add h n (-n)
  rw [Int.add_right_neg, Rat.zpow_zero, e, Rat.zero_mul] at this
  exact absurd this (by decide)
end Go.Proofs.YtjoifmnolmimkaaGreatDoor
namespace Go.Proofs.YtjoifmnolmimkaaGreatDoor
open Go.RowKit Go.Shelf
open Lim

theorem t12 : IsT ⟨#[49, 47, 50]⟩ (mkQ false 1 2) := isT_small (l := [49, 47, 50]) (by decide) (by decide) (by decide) (by decide) (by decide) (by decide)
theorem t13 : IsT ⟨#[49, 47, 51]⟩ (mkQ false 1 3) := isT_small (l := [49, 47, 51]) (by decide) (by decide) (by decide) (by decide) (by decide) (by decide)
theorem t23 : IsT ⟨#[50, 47, 51]⟩ (mkQ false 2 3) := isT_small (l := [50, 47, 51]) (by decide) (by decide) (by decide) (by decide) (by decide) (by decide)
theorem t56 : IsT ⟨#[53, 47, 54]⟩ (mkQ false 1 2 + mkQ false 1 3) := by
  have h := isT_small (m := false) (n := 5) (d := 6) (l := [53, 47, 54]) (by decide) (by decide) (by decide) (by decide) (by decide) (by decide)
  have e : mkQ false 1 2 + mkQ false 1 3 = mkQ false 5 6 := by decide +kernel
  rw [e]; exact h
theorem t94 : IsT ⟨#[57, 47, 52]⟩ (mkQ false 2 3 ^ (-2 : Int)) := by
  have h := isT_small (m := false) (n := 9) (d := 4) (l := [57, 47, 52]) (by decide) (by decide) (by decide) (by decide) (by decide) (by decide)
  have e : mkQ false 2 3 ^ (-2 : Int) = mkQ false 9 4 := by decide +kernel
  rw [e]; exact h
theorem t32 : resN (makeQ [45, 54] [52]) = .tuple #[.string ⟨#[45, 51, 47, 50]⟩, .int .i64 0] := by
  have h := isT_small (m := true) (n := 3) (d := 2) (l := [45, 51, 47, 50]) (by decide) (by decide) (by decide) (by decide) (by decide) (by decide)
  have e : makeQ [45, 54] [52] = outQ (mkQ true 6 4) := by decide +kernel
  have e2 : mkQ true 6 4 = mkQ true 3 2 := by decide +kernel
  rw [e, e2, out_T h]

set_option maxRecDepth 100000 in
set_option maxHeartbeats 2000000 in
/-- The examples hold. -/
theorem lives_any (w : World) (hr : Res w) : Calls Tryz.prog 11 #[] w fun e w' => e = .returned (.bool true) ∧ Below w.heap.size w w' := by
  have HR := Lib.hid hr
  have HB := Lib.hid (Below.refl w.heap.size w)
  clear hr
  go_enter Tryz.func11, Tryz.ntmps11
  go_wp2_with (first
    | (go_at_call 17; refine (addT _ t12 t13 t56 HR.out).mono ?_; rintro e w1 ⟨rfl, hb1⟩; have HR1 := Lib.hid (HR.out.below hb1); have HB1 := Lib.hid (HB.out.trans (hb1.mono HB.out.size)); clear hb1)
    | (go_at_call 26; refine (ratMake_any _ _ _ (by decide) (by decide) HR1.out).mono ?_; rintro e w2 ⟨rfl, hb2⟩; rw [show resN (makeQ _ _) = _ from t32]; have HR2 := Lib.hid (HR1.out.below hb2); have HB2 := Lib.hid (HB1.out.trans (hb2.mono HB1.out.size)); clear hb2)
    | (go_at_call 14; refine (powT _ t23 (by decide +kernel) t94 (by decide) (by decide) HR2.out).mono ?_; rintro e w3 ⟨rfl, hb3⟩; have HB3 := Lib.hid (HB2.out.trans (hb3.mono HB2.out.size)); clear hb3))
  go_ret
  exact ⟨rfl, HB3.out⟩

set_option maxRecDepth 100000 in
theorem pick_any (x n : Int) (w : World) (hn : 0 < n) (_hx : -9223372036854775808 ≤ x) (_hx2 : x ≤ 9223372036854775807) (hn2 : n ≤ 1000000) :
    Calls Tryz.prog 13 #[.int .i64 x, .int .i64 n] w fun e w' => ∃ k : Int, e = .returned (.int .i64 k) ∧ 0 ≤ k ∧ k < n ∧ w' = w := by
  have h1 := Int.tmod_lt_of_pos x hn
  have h2 := Int.lt_tmod_of_pos x hn
  go_enter Tryz.func13, Tryz.ntmps13
  by_cases h : x.tmod n < 0
  · go_wp2
    go_ret
    exact ⟨_, rfl, by omega, by omega, rfl⟩
  · go_wp2
    go_ret
    exact ⟨_, rfl, by omega, by omega, rfl⟩
set_option maxRecDepth 100000 in
theorem sum_any {a b c : ByteArray} {p q : Rat} (w : World) (ha : IsT a p) (hb : IsT b q) (hc : IsT c (p + q)) (hr : Res w) :
    Calls Tryz.prog 21 #[.string a, .string b] w fun e w' => e = .returned (.string c) ∧ Below w.heap.size w w' := by
  have HC := Lib.hid (addT w ha hb hc hr)
  clear ha hb hc hr
  go_enter Tryz.func21, Tryz.ntmps21
  go_wp2_with (go_at_call 17; refine HC.out.mono ?_; rintro e w1 ⟨rfl, hb1⟩; have HB1 := Lib.hid hb1; clear hb1)
  go_ret
  exact ⟨rfl, HB1.out⟩
set_option maxRecDepth 100000 in
theorem product_any {a b c : ByteArray} {p q : Rat} (w : World) (ha : IsT a p) (hb : IsT b q) (hc : IsT c (p * q)) (hr : Res w) :
    Calls Tryz.prog 16 #[.string a, .string b] w fun e w' => e = .returned (.string c) ∧ Below w.heap.size w w' := by
  have HC := Lib.hid (mulT w ha hb hc hr)
  clear ha hb hc hr
  go_enter Tryz.func16, Tryz.ntmps16
  go_wp2_with (go_at_call 18; refine HC.out.mono ?_; rintro e w1 ⟨rfl, hb1⟩; have HB1 := Lib.hid hb1; clear hb1)
  go_ret
  exact ⟨rfl, HB1.out⟩

/-- Whether texts are numbers of at most so many bytes. -/
def validL (most : Nat) (ls : List ByteArray) : Bool := ls.all fun s => decide (s.size ≤ most) && (errQ s.data.toList == 0)
theorem validL_of {most : Nat} {ls : List ByteArray} (h : ∀ (j : Nat) (hj : j < ls.length), ls[j].size ≤ most ∧ errQ ls[j].data.toList = 0) : validL most ls = true := by
  unfold validL
  rw [List.all_eq_true]
  intro s hs
  obtain ⟨j, hj, rfl⟩ := List.getElem_of_mem hs
  obtain ⟨h1, h2⟩ := h j hj
  simp [h1, h2]
theorem validL_not {most : Nat} {ls : List ByteArray} {j : Nat} (hj : j < ls.length) (h : ¬ (ls[j].size ≤ most ∧ errQ ls[j].data.toList = 0)) : validL most ls = false := by
  unfold validL
  rw [List.all_eq_false]
  refine ⟨ls[j], List.getElem_mem hj, ?_⟩
  intro h2
  apply h
  simpa using h2
set_option maxRecDepth 100000 in
set_option maxHeartbeats 2000000 in
theorem valid_any (ls : List ByteArray) (most b : Nat) (w : World) (hb : Blk w b 22 (ls.map Value.string).toArray) (hl : ls.length ≤ 100) (hm : most ≤ 270000) :
    Calls Tryz.prog 12 #[.int .i64 (most : Int), .slice (some ⟨b, 0, none⟩) ls.length ls.length] w fun e w' => e = .returned (.bool (validL most ls)) ∧ Below w.heap.size w w' := by
  have HBK := Lib.hid hb
  have HB := Lib.hid (Below.refl w.heap.size w)
  clear hb
  go_enter Tryz.func12, Tryz.ntmps12
  go_wp2
  go_loopw [5] (fun si wr => ∃ k : Nat, k ≤ ls.length ∧ si = .int .i64 (k : Int) ∧ (∀ (j : Nat) (hj : j < ls.length), j < k → ls[j].size ≤ most ∧ errQ ls[j].data.toList = 0) ∧ Below w.heap.size w wr) (fun si _ => ls.length - (intOf si).toNat)
  case atStart => exact ⟨0, Nat.zero_le _, rfl, fun j _ h => absurd h (Nat.not_lt_zero _), HB.out⟩
  case round =>
    obtain ⟨k, hk, rfl, hdk, hbr⟩ := hrel
    have HDK := Lib.hid hdk
    have HBR := Lib.hid hbr
    clear hdk hbr
    by_cases hlt : k < ls.length
    · have hlt' : (k : Int) < (ls.length : Int) := by omega
      have cx : wr.cell? ⟨b, k, none⟩ = some (.string ls[k]) := by
        have := (cellrow (HBK.out.below HBR.out HBK.out.lt) k (by simpa using hlt)).1
        simpa using this
      have HMS := Lib.hid (show ls[k].size ≤ most ∧ errQ ls[k].data.toList = 0 → ls[k].size ≤ most ∧ errQ ls[k].data.toList = 0 from id)
      have HNV := Lib.hid (fun h => validL_not (most := most) hlt h)
      have HCK := Lib.hid (fun (w : World) (h : ls[k].size ≤ 270000) => refCheck_any ls[k] w h)
      generalize hs0 : ls[k] = s at *
      have HS0 := Lib.hid hs0
      clear hs0
      by_cases hs : (most : Int) < (s.size : Int)
      · have HH := Lib.hid hs
        go_wp2
        go_ret
        exact ⟨by rw [HNV.out (fun h => by have := HH.out; omega)]; rfl, HBR.out⟩
      · have hs2 : ¬ (s.size : Int) > (most : Int) := by omega
        by_cases he : errQ s.data.toList = 0
        · have HE := Lib.hid he
          clear he
          go_wp2_with (go_at_call 23; refine (HCK.out _ (by omega)).mono ?_; rintro e w2 ⟨rfl, hb2⟩; rw [HE.out]; have HB2 := Lib.hid (HBR.out.trans (hb2.mono HBR.out.size)); clear hb2)
          go_roundw
          case rel =>
            refine ⟨k + 1, by omega, by go_num, fun j hj hlt2 => ?_, HB2.out⟩
            by_cases hjk : j = k
            · subst hjk
              rw [HS0.out]
              exact ⟨by omega, HE.out⟩
            · exact HDK.out j hj (by omega)
          case measure => simp [intOf]; omega
        · have hne : ((errQ s.data.toList : Int) == 0) = false := by rw [beq_eq_false_iff_ne]; omega
          have HE := Lib.hid he
          clear he
          go_wp2_with (go_at_call 23; refine (HCK.out _ (by omega)).mono ?_; rintro e w2 ⟨rfl, hb2⟩; have HB2 := Lib.hid (HBR.out.trans (hb2.mono HBR.out.size)); clear hb2)
          go_ret
          exact ⟨by rw [HNV.out (fun h => HE.out h.2)]; rfl, HB2.out⟩
    · have hlt' : ¬ (k : Int) < (ls.length : Int) := by omega
      go_wp2
      go_ret
      exact ⟨by rw [validL_of fun j hj => HDK.out j hj (by omega)]; rfl, HBR.out⟩
theorem valid1_any (a : ByteArray) (most : Int) (mn b : Nat) (w : World) (hm : most = (mn : Int)) (hmn : mn ≤ 270000) (hb : Blk w b 22 #[.string a]) :
    Calls Tryz.prog 12 #[.int .i64 most, .slice (some ⟨b, 0, none⟩) 1 1] w fun e w' => e = .returned (.bool (decide (a.size ≤ mn) && (errQ a.data.toList == 0))) ∧ Below w.heap.size w w' := by
  subst hm
  have := valid_any [a] mn b w hb (by simp) hmn
  simpa [validL] using this
theorem valid3_any (a b' c : ByteArray) (most : Int) (mn b : Nat) (w : World) (hm : most = (mn : Int)) (hmn : mn ≤ 270000) (hb : Blk w b 22 #[.string a, .string b', .string c]) :
    Calls Tryz.prog 12 #[.int .i64 most, .slice (some ⟨b, 0, none⟩) 3 3] w fun e w' => e = .returned (.bool (validL mn [a, b', c])) ∧ Below w.heap.size w w' := by
  subst hm
  exact valid_any [a, b', c] mn b w hb (by simp) hmn
end Go.Proofs.YtjoifmnolmimkaaGreatDoor
