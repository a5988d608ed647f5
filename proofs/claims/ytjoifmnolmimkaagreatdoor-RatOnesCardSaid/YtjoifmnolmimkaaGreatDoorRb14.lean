/- The order of rational numbers by their parts. No program in sight. rat.with and rat.both over ints (printed by mkwithi.py). rat: comparisons: frac.Cmp, rat.Sign, Cmp, choose, Min, Max (printed by mkratc.py). Rounding of rational numbers by their parts. No program in sight. -/
import Derived.Test.YtjoifmnolmimkaaGreatDoorRb07
import Derived.Test.YtjoifmnolmimkaaGreatDoorRb10
import Derived.Test.YtjoifmnolmimkaaGreatDoorRb11
namespace Go.Proofs.YtjoifmnolmimkaaGreatDoor
open Lim

/-- The comparison of two numbers. -/
def cmpQ (p q : Rat) : Int := if p < q then -1 else if p = q then 0 else 1
theorem cmpQ_le (p q : Rat) : cmpQ p q ≤ 0 ↔ p ≤ q := by
  unfold cmpQ
  by_cases h : p < q
  · rw [if_pos h]; exact ⟨fun _ => Rat.le_of_lt h, fun _ => by omega⟩
  · rw [if_neg h]
    by_cases h2 : p = q
    · rw [if_pos h2]; subst h2; exact ⟨fun _ => Rat.le_refl, fun _ => by omega⟩
    · rw [if_neg h2]; exact ⟨fun h => absurd h (by omega), fun h3 => absurd (Rat.lt_of_le_of_ne h3 h2) h⟩
theorem cmpQ_lt (p q : Rat) : cmpQ p q < 0 ↔ p < q := by
  unfold cmpQ
  by_cases h : p < q
  · rw [if_pos h]; exact ⟨fun _ => h, fun _ => by omega⟩
  · rw [if_neg h]; split <;> exact ⟨fun h => absurd h (by omega), fun h3 => absurd h3 h⟩
theorem cmpQ_self (p : Rat) : cmpQ p p = 0 := by unfold cmpQ; rw [if_neg (fun h => Rat.lt_irrefl h), if_pos rfl]
theorem cmpQ_zero (p q : Rat) : cmpQ p q = 0 ↔ p = q := by
  constructor
  · unfold cmpQ
    intro h
    split at h
    · cases h
    · split at h
      · assumption
      · cases h
  · rintro rfl; exact cmpQ_self p
theorem cmpQ_swap (p q : Rat) : cmpQ q p = - cmpQ p q := by
  unfold cmpQ
  by_cases h : p < q
  · rw [if_pos h, if_neg (fun h2 => Rat.not_le.2 h (Rat.le_of_lt h2)), if_neg (fun e => by subst e; exact Rat.lt_irrefl h)]; rfl
  · by_cases h2 : p = q
    · subst h2; rw [if_neg h, if_pos rfl]; rfl
    · have h3 : q < p := by
        have := Rat.not_lt.1 h
        exact Rat.lt_of_le_of_ne this (fun e => h2 e.symm)
      rw [if_pos h3, if_neg h, if_neg h2]
theorem cmpQ_cases (p q : Rat) : cmpQ p q = -1 ∨ cmpQ p q = 0 ∨ cmpQ p q = 1 := by
  unfold cmpQ
  split
  · exact .inl rfl
  · split
    · exact .inr (.inl rfl)
    · exact .inr (.inr rfl)
theorem cmpQ_cross (p q : Rat) : cmpQ p q = if p.num * q.den < q.num * p.den then -1 else if q.num * p.den < p.num * q.den then 1 else 0 := by
  unfold cmpQ
  by_cases h : p < q
  · rw [if_pos h, if_pos ((Rat.lt_iff p q).1 h)]
  · rw [if_neg h, if_neg (fun h2 => h ((Rat.lt_iff p q).2 h2))]
    by_cases h2 : p = q
    · subst h2; rw [if_pos rfl, if_neg (Int.lt_irrefl _)]
    · rw [if_neg h2, if_pos ((Rat.lt_iff q p).1 (Rat.lt_of_le_of_ne (Rat.not_lt.1 h) (fun e => h2 e.symm)))]
theorem sgQ_num (q : Rat) : sgQ q = if q.num < 0 then -1 else if q.num = 0 then 0 else 1 := by
  unfold sgQ nm ng
  by_cases h : q.num = 0
  · simp [h]
  · have h1 : q.num.natAbs ≠ 0 := by omega
    rw [if_neg h1, if_neg h]
    by_cases h2 : q.num < 0
    · simp [h2]
    · simp [h2]
theorem cross_sign (p : Rat) {d : Nat} (hd : 0 < d) : (p.num < 0 ↔ p.num * (d : Int) < 0) ∧ (p.num = 0 ↔ p.num * (d : Int) = 0) ∧ (0 < p.num ↔ 0 < p.num * (d : Int)) := by
  have hd' : (0 : Int) < (d : Int) := by omega
  rcases Int.lt_trichotomy p.num 0 with h | h | h
  · have := Int.mul_neg_of_neg_of_pos h hd'
    omega
  · rw [h, Int.zero_mul]; omega
  · have := Int.mul_pos h hd'
    omega
theorem cmp_signs {p q : Rat} (h : sgQ p ≠ sgQ q) : max (-1) (min 1 (sgQ p - sgQ q)) = cmpQ p q := by
  rw [cmpQ_cross]
  rw [sgQ_num, sgQ_num] at *
  obtain ⟨a1, a2, a3⟩ := cross_sign p (den_pos q)
  obtain ⟨b1, b2, b3⟩ := cross_sign q (den_pos p)
  generalize p.num * (q.den : Int) = X at *
  generalize q.num * (p.den : Int) = Y at *
  split at h <;> split at h <;> (try split at h) <;> (try split at h) <;> (try split) <;> (try split) <;> omega
theorem cmp_pos {p q : Rat} (h : sgQ p = sgQ q) (hn : ng p = false) : sgn (nm p * q.den) (nm q * p.den) = cmpQ p q := by
  have hq : ng q = false := by
    rw [sgQ_num, sgQ_num] at h
    unfold ng at *
    have := of_decide_eq_false hn
    apply decide_eq_false
    intro hq
    rw [if_neg this, if_pos hq] at h
    split at h <;> cases h
  rw [cmpQ_cross, num_of p, num_of q, hn, hq]
  simp only [Bool.false_eq_true, if_false]
  unfold sgn
  rw [← Int.natCast_mul, ← Int.natCast_mul]
  generalize nm p * q.den = X
  generalize nm q * p.den = Y
  by_cases h1 : X < Y
  · rw [if_pos h1, if_pos (by omega)]
  · rw [if_neg h1, if_neg (show ¬ ((X : Int) < (Y : Int)) by omega)]
    by_cases h2 : Y < X
    · rw [if_pos h2, if_pos (by omega)]
    · rw [if_neg h2, if_neg (by omega)]
theorem cmp_neg {p q : Rat} (h : sgQ p = sgQ q) (hn : ng p = true) : -sgn (nm p * q.den) (nm q * p.den) = cmpQ p q := by
  have hq : ng q = true := by
    rw [sgQ_num, sgQ_num] at h
    unfold ng at *
    have := of_decide_eq_true hn
    apply decide_eq_true
    rw [if_pos this] at h
    split at h
    · assumption
    · split at h <;> cases h
  rw [cmpQ_cross, num_of p, num_of q, hn, hq]
  simp only [if_true]
  unfold sgn
  rw [Int.neg_mul, Int.neg_mul, ← Int.natCast_mul, ← Int.natCast_mul]
  generalize nm p * q.den = X
  generalize nm q * p.den = Y
  by_cases h1 : X < Y
  · rw [if_pos h1, if_neg (by omega), if_pos (by omega)]; rfl
  · rw [if_neg h1]
    by_cases h2 : Y < X
    · rw [if_pos h2, if_pos (by omega)]
    · rw [if_neg h2, if_neg (by omega), if_neg (by omega)]; rfl
end Go.Proofs.YtjoifmnolmimkaaGreatDoor
namespace Go.Proofs.YtjoifmnolmimkaaGreatDoor
open Go.RowKit Go.Shelf
open Lim
namespace WI
theorem runs_both1 : Runs 144 := runs_of Tryz.func144 (by kernel_rfl) (by kernel_rfl)
theorem runs_both2 : Runs 145 := runs_of Tryz.func145 (by kernel_rfl) (by kernel_rfl)
set_option maxRecDepth 100000 in
set_option maxHeartbeats 2000000 in
theorem with_err (s : ByteArray) (fv : Value) (w : World) (hlen : s.size ≤ 270000) (hr : Res w) (he : errQ s.data.toList ≠ 0) :
    Calls Tryz.prog 84 #[.string s, fv] w fun e w' => e = .returned (.tuple #[.int .i64 0, .int .i64 (errQ s.data.toList : Int)]) ∧ Below w.heap.size w w' := by
  have HR := Lib.hid hr
  have hne : ((errQ s.data.toList : Int) == 0) = false := by rw [beq_eq_false_iff_ne]; omega
  have HE := Lib.hid he
  have HP := Lib.hid (fparse_any s w hlen hr)
  clear hr he
  go_enter Tryz.func84, Tryz.ntmps84
  go_wp2_with (go_at_call 111; refine HP.out.mono ?_; rintro e w1 ⟨v, rfl, -, hz, hb⟩; obtain rfl := hz HE.out; have HB := Lib.hid hb; clear hb hz)
  refine bodyPost_ret (results_tmp2 rfl _ _ _) rfl ?_
  exact ⟨rfl, below_alloc HB.out _⟩
set_option maxRecDepth 100000 in
set_option maxHeartbeats 2000000 in
theorem with_ok (F : FuncId) (hrun : Runs F) (caps : Array Value) (rv : Value) (k : Int) (s : ByteArray) (w : World) (hlen : s.size ≤ 270000) (hr : Res w) (he : errQ s.data.toList = 0)
    (hF : ∀ v w', Below w.heap.size w w' → Res w' → IsFrac w' v (valQ s.data.toList) → Calls Tryz.prog F (#[v] ++ caps) w' fun e w'' => e = .returned (.tuple #[rv, .int .i64 k]) ∧ Below w'.heap.size w' w'') :
    Calls Tryz.prog 84 #[.string s, .func (.func F) #[] caps] w fun e w' => e = .returned (.tuple #[rv, .int .i64 k]) ∧ Below w.heap.size w w' := by
  have HR := Lib.hid hr
  have hne : ((errQ s.data.toList : Int) == 0) = true := by rw [he]; rfl
  have HE := Lib.hid he
  have HP := Lib.hid (fparse_any s w hlen hr)
  have HF := Lib.hid hF
  have hrn := hrun
  unfold Runs at hrn
  clear hr he hF hrun
  go_enter Tryz.func84, Tryz.ntmps84
  go_wp2_with (go_at_call 111; refine HP.out.mono ?_; rintro e w1 ⟨v, rfl, hv, -, hb⟩; obtain ⟨bq, N, D, A, c, A', c', rfl, hn, hd, HQ⟩ := isFrac_open (hv HE.out); have HV := Lib.hid (hv HE.out); have HB := Lib.hid hb; clear hb hv hn hd)
  have hx := below_alloc HB.out (.cells #[.bool bq, .slice A (toL N).length c, .slice A' (toL D).length c'] 50)
  have hx1 : Below w1.heap.size w1 (w1.alloc (.cells #[.bool bq, .slice A (toL N).length c, .slice A' (toL D).length c'] 50)) := below_alloc (Below.refl _ _) _
  have HX := Lib.hid hx
  refine (HF.out _ _ HX.out (HR.out.below HX.out) (HV.out.below hx1)).mono ?_
  rintro e w2 ⟨rfl, hb2⟩
  have HB2 := Lib.hid (HX.out.trans (hb2.mono HX.out.size))
  clear hx hx1 hb2
  go_wp2
  refine bodyPost_ret (results_tmp2 rfl _ _ _) rfl ?_
  exact ⟨rfl, HB2.out⟩

set_option maxRecDepth 100000 in
set_option maxHeartbeats 2000000 in
/-- both$1$1: the second number. -/
theorem both2_ok (F : FuncId) (hrun : Runs F) (rv : Value) (k : Int) (pf px : Nat) (q q' : Rat) (v v' : Value) (w : World) (hpf : Boxed w pf 90 (.func (.func F) #[] #[]))
    (hv : IsFrac w v q) (hv' : IsFrac w v' q') (vs : Array Value) (hvs : v = .agg vs) (hpx : Blk w px 50 vs) (_hr : Res w)
    (hF : ∀ w', Below w.heap.size w w' → Calls Tryz.prog F #[v, v'] w' fun e w'' => e = .returned (.tuple #[rv, .int .i64 k]) ∧ Below w'.heap.size w' w'') :
    Calls Tryz.prog 145 #[v', .pointer (some ⟨pf, 0, none⟩), .pointer (some ⟨px, 0, none⟩)] w fun e w' => e = .returned (.tuple #[rv, .int .i64 k]) ∧ Below w.heap.size w w' := by
  obtain ⟨bq, N, D, A, c, A', c', rfl, hn, hd, HQ⟩ := isFrac_open hv
  obtain ⟨bq', N', D', B, d, B', d', rfl, hn', hd', HQ'⟩ := isFrac_open hv'
  obtain rfl : #[.bool bq, .slice A (toL N).length c, .slice A' (toL D).length c'] = vs := by injection hvs
  have hrn := hrun
  unfold Runs at hrn
  have HF := Lib.hid hF
  have HX := Lib.hid (below_alloc (Below.refl w.heap.size w) (.cells #[.bool bq', .slice B (toL N').length d, .slice B' (toL D').length d'] 50))
  have cf := (bx_below hpf HX.out hpf.lt).cell
  obtain ⟨x0, x1, x2⟩ := rows_of hpx HX.out hpx.lt
  clear hrun hF hn hd hn' hd' hv hv' hpf hvs hpx
  go_enter Tryz.func145, Tryz.ntmps145
  go_wp2
  refine (HF.out _ HX.out).mono ?_
  rintro e w2 ⟨rfl, hb2⟩
  have HB2 := Lib.hid (HX.out.trans (hb2.mono HX.out.size))
  clear hb2
  go_wp2
  refine bodyPost_ret (results_tmp2 rfl _ _ _) rfl ?_
  exact ⟨rfl, HB2.out⟩

section
variable (F : FuncId) (b : ByteArray) (pb pf : Nat) (q : Rat) (v : Value) (w : World)
set_option maxRecDepth 100000 in
set_option maxHeartbeats 2000000 in
/-- both$1: the first number. -/
theorem both1_err (hlen : b.size ≤ 270000) (hpb : Boxed w pb 22 (.string b)) (hpf : Boxed w pf 90 (.func (.func F) #[] #[]))
    (hv : IsFrac w v q) (hr : Res w) (he : errQ b.data.toList ≠ 0) :
    Calls Tryz.prog 144 #[v, .pointer (some ⟨pb, 0, none⟩), .pointer (some ⟨pf, 0, none⟩)] w fun e w' => e = .returned (.tuple #[.int .i64 0, .int .i64 (errQ b.data.toList : Int)]) ∧ Below w.heap.size w w' := by
  obtain ⟨bq, N, D, A, c, A', c', rfl, hn, hd, HQ⟩ := isFrac_open hv
  have HX := Lib.hid (below_alloc (Below.refl w.heap.size w) (.cells #[.bool bq, .slice A (toL N).length c, .slice A' (toL D).length c'] 50))
  have cf := (bx_below hpf HX.out hpf.lt).cell
  have cb := (bx_below hpb HX.out hpb.lt).cell
  have HW := Lib.hid (fun fv => with_err b fv _ hlen (hr.below HX.out) he)
  clear hn hd hv hpf hpb hr he
  go_enter Tryz.func144, Tryz.ntmps144
  go_wp2_with (go_at_call 84; refine (HW.out _).mono ?_; rintro e w2 ⟨rfl, hb2⟩; have HB2 := Lib.hid (HX.out.trans (hb2.mono HX.out.size)); clear hb2)
  refine bodyPost_ret (results_tmp2 rfl _ _ _) rfl ?_
  exact ⟨rfl, HB2.out⟩
set_option maxRecDepth 100000 in
set_option maxHeartbeats 2000000 in
theorem both1_ok (hrun : Runs F) (rv : Value) (k : Int) (hlen : b.size ≤ 270000) (hpb : Boxed w pb 22 (.string b)) (hpf : Boxed w pf 90 (.func (.func F) #[] #[]))
    (hv : IsFrac w v q) (hr : Res w) (he : errQ b.data.toList = 0)
    (hF : ∀ v' w', Below w.heap.size w w' → Res w' → IsFrac w' v q → IsFrac w' v' (valQ b.data.toList) → Calls Tryz.prog F #[v, v'] w' fun e w'' => e = .returned (.tuple #[rv, .int .i64 k]) ∧ Below w'.heap.size w' w'') :
    Calls Tryz.prog 144 #[v, .pointer (some ⟨pb, 0, none⟩), .pointer (some ⟨pf, 0, none⟩)] w fun e w' => e = .returned (.tuple #[rv, .int .i64 k]) ∧ Below w.heap.size w w' := by
  obtain ⟨bq, N, D, A, c, A', c', rfl, hn, hd, HQ⟩ := isFrac_open hv
  have HX := Lib.hid (below_alloc (Below.refl w.heap.size w) (.cells #[.bool bq, .slice A (toL N).length c, .slice A' (toL D).length c'] 50))
  have cf := (bx_below hpf HX.out hpf.lt).cell
  have cb := (bx_below hpb HX.out hpb.lt).cell
  have HW := Lib.hid (with_ok 145 runs_both2 #[.pointer (some ⟨pf, 0, none⟩), .pointer (some ⟨w.heap.size, 0, none⟩)] rv k b (w.alloc (.cells #[.bool bq, .slice A (toL N).length c, .slice A' (toL D).length c'] 50)) hlen (hr.below HX.out) he (fun v' w' hb' hr' hv' => by
    have hB : Below w.heap.size w w' := HX.out.trans (hb'.mono HX.out.size)
    exact both2_ok F hrun rv k pf w.heap.size q _ _ v' w' (bx_below hpf hB hpf.lt) (hv.below hB) hv' _ rfl ((Blk.new w _ _).below hb' (by simp)) hr' (fun w2 hb2 => hF v' w2 (hB.trans (hb2.mono hB.size)) (hr'.below hb2) ((hv.below hB).below hb2) (hv'.below hb2))))
  clear hn hd hv hpf hpb hr he hF hrun
  go_enter Tryz.func144, Tryz.ntmps144
  go_wp2_with (go_at_call 84; refine HW.out.mono ?_; rintro e w2 ⟨rfl, hb2⟩; have HB2 := Lib.hid (HX.out.trans (hb2.mono HX.out.size)); clear hb2)
  refine bodyPost_ret (results_tmp2 rfl _ _ _) rfl ?_
  exact ⟨rfl, HB2.out⟩
end

theorem box_both (w : World) (b : ByteArray) (fv : Value) : Boxed ((w.alloc (.cells #[.string b] 22)).alloc (.cells #[fv] 90)) w.heap.size 22 (.string b) ∧
    Boxed ((w.alloc (.cells #[.string b] 22)).alloc (.cells #[fv] 90)) (w.heap.size + 1) 90 fv ∧ Below w.heap.size w ((w.alloc (.cells #[.string b] 22)).alloc (.cells #[fv] 90)) := by
  refine ⟨(Boxed.new w _ _).alloc _, ?_, below_alloc (below_alloc (Below.refl _ _) _) _⟩
  have := Boxed.new (w.alloc (.cells #[.string b] 22)) 90 fv
  rwa [World.size_alloc] at this

set_option maxRecDepth 100000 in
set_option maxHeartbeats 2000000 in
/-- rat.both: two numbers. -/
theorem both_any (F : FuncId) (hrun : Runs F) (f : Rat → Rat → Value × Int) (a b : ByteArray) (w : World) (ha : a.size ≤ 270000) (hb : b.size ≤ 270000) (hr : Res w)
    (hF : ∀ v v' w', Below w.heap.size w w' → Res w' → IsFrac w' v (valQ a.data.toList) → IsFrac w' v' (valQ b.data.toList) → errQ a.data.toList = 0 → errQ b.data.toList = 0 → Calls Tryz.prog F #[v, v'] w' fun e w'' => e = .returned (.tuple #[(f (valQ a.data.toList) (valQ b.data.toList)).1, .int .i64 (f (valQ a.data.toList) (valQ b.data.toList)).2]) ∧ Below w'.heap.size w' w'') :
    Calls Tryz.prog 102 #[.string a, .string b, .func (.func F) #[] #[]] w fun e w' =>
      e = .returned (if errQ a.data.toList ≠ 0 then .tuple #[.int .i64 0, .int .i64 (errQ a.data.toList : Int)] else if errQ b.data.toList ≠ 0 then .tuple #[.int .i64 0, .int .i64 (errQ b.data.toList : Int)] else .tuple #[(f (valQ a.data.toList) (valQ b.data.toList)).1, .int .i64 (f (valQ a.data.toList) (valQ b.data.toList)).2]) ∧ Below w.heap.size w w' := by
  obtain ⟨b4, b5, hB⟩ := box_both w b (.func (.func F) #[] #[])
  by_cases h1 : errQ a.data.toList ≠ 0
  · rw [if_pos h1]
    have HW := Lib.hid (fun fv => with_err a fv _ ha (hr.below hB) h1)
    have HB := Lib.hid hB
    clear b4 b5 hB hrun hF hr h1
    go_enter Tryz.func102, Tryz.ntmps102
    go_wp2_with (go_at_call 84; refine (HW.out _).mono ?_; rintro e w2 ⟨rfl, hb2⟩; have HB2 := Lib.hid (HB.out.trans (hb2.mono HB.out.size)); clear hb2)
    refine bodyPost_ret (results_tmp2 rfl _ _ _) rfl ?_
    exact ⟨rfl, HB2.out⟩
  · rw [if_neg h1]
    have h1 : errQ a.data.toList = 0 := by omega
    by_cases h2 : errQ b.data.toList ≠ 0
    · rw [if_pos h2]
      have HW := Lib.hid (with_ok 144 runs_both1 #[.pointer (some ⟨w.heap.size, 0, none⟩), .pointer (some ⟨w.heap.size + 1, 0, none⟩)] (.int .i64 0) (errQ b.data.toList : Int) a _ ha (hr.below hB) h1 (fun v w' hb' hr' hv =>
        both1_err F b w.heap.size (w.heap.size + 1) _ v w' hb (bx_below b4 hb' b4.lt) (bx_below b5 hb' b5.lt) hv hr' h2))
      have HB := Lib.hid hB
      clear b4 b5 hB hrun hF hr h1 h2
      go_enter Tryz.func102, Tryz.ntmps102
      go_wp2_with (go_at_call 84; refine HW.out.mono ?_; rintro e w2 ⟨rfl, hb2⟩; have HB2 := Lib.hid (HB.out.trans (hb2.mono HB.out.size)); clear hb2)
      refine bodyPost_ret (results_tmp2 rfl _ _ _) rfl ?_
      exact ⟨rfl, HB2.out⟩
    · rw [if_neg h2]
      have h2 : errQ b.data.toList = 0 := by omega
      generalize hR : f (valQ a.data.toList) (valQ b.data.toList) = R at *
      obtain ⟨rv, k⟩ := R
      dsimp only at hF ⊢
      have HW := Lib.hid (with_ok 144 runs_both1 #[.pointer (some ⟨w.heap.size, 0, none⟩), .pointer (some ⟨w.heap.size + 1, 0, none⟩)] rv k a _ ha (hr.below hB) h1 (fun v w' hb' hr' hv =>
        both1_ok F b w.heap.size (w.heap.size + 1) _ v w' hrun rv k hb (bx_below b4 hb' b4.lt) (bx_below b5 hb' b5.lt) hv hr' h2 (fun v' w2 hb2 hr2 hv2 hv2' => hF v v' w2 (hB.trans ((hb'.mono hB.size).trans (hb2.mono (Nat.le_trans hB.size hb'.size)))) hr2 hv2 hv2' h1 h2)))
      have HB := Lib.hid hB
      clear b4 b5 hB hrun hF hr h1 h2 hR
      go_enter Tryz.func102, Tryz.ntmps102
      go_wp2_with (go_at_call 84; refine HW.out.mono ?_; rintro e w2 ⟨rfl, hb2⟩; have HB2 := Lib.hid (HB.out.trans (hb2.mono HB.out.size)); clear hb2)
      refine bodyPost_ret (results_tmp2 rfl _ _ _) rfl ?_
      exact ⟨rfl, HB2.out⟩
end WI
end Go.Proofs.YtjoifmnolmimkaaGreatDoor
namespace Go.Proofs.YtjoifmnolmimkaaGreatDoor
open Go.RowKit Go.Shelf
open Lim
attribute [local go_sem] Oper.semAt_some

theorem box2_blk (w : World) (m vn vd m' vn' vd' : Value) : Blk ((w.alloc (.cells #[m, vn, vd] 50)).alloc (.cells #[m', vn', vd'] 50)) w.heap.size 50 #[m, vn, vd] ∧
    Blk ((w.alloc (.cells #[m, vn, vd] 50)).alloc (.cells #[m', vn', vd'] 50)) (w.heap.size + 1) 50 #[m', vn', vd'] ∧
    Below w.heap.size w ((w.alloc (.cells #[m, vn, vd] 50)).alloc (.cells #[m', vn', vd'] 50)) ∧ ((w.alloc (.cells #[m, vn, vd] 50)).alloc (.cells #[m', vn', vd'] 50)).heap.size = w.heap.size + 2 := by
  refine ⟨(Blk.new w _ _).alloc _, ?_, ((Below.refl _ _).alloc (Nat.le_refl _) _).alloc (by simp) _, by simp⟩
  have := Blk.new (w.alloc (.cells #[m, vn, vd] 50)) 50 #[m', vn', vd']
  rwa [World.size_alloc] at this
theorem sgQ_bound (q : Rat) : -1 ≤ sgQ q ∧ sgQ q ≤ 1 := by
  unfold sgQ
  split
  · omega
  · split <;> omega
theorem sgn_bound (x y : Nat) : -1 ≤ sgn x y ∧ sgn x y ≤ 1 := by
  unfold sgn
  split
  · omega
  · split <;> omega
theorem clamp_id {c : Int} (h : -1 ≤ c ∧ c ≤ 1) : max (-1) (min 1 c) = c := by omega

set_option maxRecDepth 100000 in
set_option maxHeartbeats 2000000 in
theorem fcmp_ne (p q : Rat) (v v' : Value) (w : World) (h : IsFrac w v p) (h' : IsFrac w v' q) (l1 : (toL (nm p)).length ≤ 10000) (l2 : (toL p.den).length ≤ 10000) (l3 : (toL (nm q)).length ≤ 10000) (l4 : (toL q.den).length ≤ 10000) (hne : sgQ p ≠ sgQ q) :
    Calls Tryz.prog 104 #[v, v'] w fun e w' => ∃ c : Int, e = .returned (.int .i64 c) ∧ max (-1) (min 1 c) = cmpQ p q ∧ Below w.heap.size w w' := by
  have HV := Lib.hid h
  have HV' := Lib.hid h'
  have HE := Lib.hid (cmp_signs hne)
  have hxy : (sgQ p == sgQ q) = false := by rw [beq_eq_false_iff_ne]; exact hne
  obtain ⟨bx1, bx2⟩ := sgQ_bound p
  obtain ⟨by1, by2⟩ := sgQ_bound q
  clear hne
  obtain ⟨b, N, D, An, cn, Ad, cd, rfl, hn, hd, HP⟩ := isFrac_open h
  obtain ⟨b', N', D', An', cn', Ad', cd', rfl, hn', hd', HQ⟩ := isFrac_open h'
  obtain ⟨e1, e2, e3⟩ := HP.out
  obtain ⟨f1, f2, f3⟩ := HQ.out
  rw [e2] at l1
  rw [e3] at l2
  rw [f2] at l3
  rw [f3] at l4
  have HN := Lib.hid hn
  have HD := Lib.hid hd
  have HN' := Lib.hid hn'
  have HD' := Lib.hid hd'
  have HI := Lib.hid (And.intro (rfl : sgQ p = sgQ p) (rfl : sgQ q = sgQ q))
  clear hn hd hn' hd' h h' e1 e2 e3 f1 f2 f3
  have lx := Nat.le_trans (toL_mul_len N D') (show _ ≤ 20000 by omega)
  generalize hgx : sgQ p = x at hxy bx1 bx2 HE
  generalize hgy : sgQ q = y at hxy by1 by2 HE
  have HGX := Lib.hid hgx
  have HGY := Lib.hid hgy
  clear hgx hgy HI
  refine (callsIn_wide (n := 3)).1 ?_
  have h1 : 1 ≤ 3 := by omega
  have hmx : Tryz.prog.follows .mixedOrders = true := by kernel_rfl
  refine callsIn_of_wp Tryz.func104 rfl trivial ?_ rfl
  simp only [Tryz.ntmps104, List.size_toArray, List.length_cons, List.length_nil, Nat.reduceAdd, Nat.reduceSub, Array.replicate_succ, Array.replicate_zero, List.push_toArray, List.append_toArray, List.nil_append, List.cons_append]
  gi_upto_region 1 with fail
  obtain ⟨b0, b1, hB, hs⟩ := box2_blk w (.bool b) (.slice An (toL N).length cn) (.slice Ad (toL D).length cd) (.bool b') (.slice An' (toL N').length cn') (.slice Ad' (toL D').length cd')
  generalize (w.alloc (.cells #[.bool b, .slice An (toL N).length cn, .slice Ad (toL D).length cd] 50)).alloc (.cells #[.bool b', .slice An' (toL N').length cn', .slice Ad' (toL D').length cd'] 50) = W at *
  obtain ⟨x0, x1, x2⟩ := same_cells (S := fun k => k < W.heap.size) b0 (by omega)
  obtain ⟨y0, y1, y2⟩ := same_cells (S := fun k => k < W.heap.size) b1 (by omega)
  have HB := Lib.hid (below_drew hB)
  have HS := Lib.hid hs
  have P0 := Lib.hid b0
  have P1 := Lib.hid b1
  clear b0 b1 hB hs
  refine wpIn_stage (IsSame W (fun k => k < W.heap.size)) [0, 2] [] hmx (by kernel_rfl) (isSame_of fun _ _ => rfl) ?_
  change wpStage _ _ _ _ _ _ _ _ (4 + 2) _ _ _
  refine stage_reads [0, 2] 4 _ _ (by kernel_rfl) ?_
  change wpQuietIn _ _ _ _ (fun W' => ∃ x : SameAt W (fun k => k < W.heap.size), W' = x.W) _ _ _
  simp only [pick_cons, pick_nil, List.getElem?_cons_zero, List.getElem?_cons_succ, Option.elim_some]
  repeat (gi_big_quiet_step (fail))
  refine wpQuietIn_nil ?_
  refine stage_one 1 (by kernel_rfl) rfl ?_
  gi_wp2
  refine ⟨trivial, ?_⟩
  refine (callsIn_wide.2 (sign_any p _ W.drew (HV.out.below HB.out))).mono ?_
  rintro e w3 ⟨rfl, hb3⟩
  rw [HGX.out]
  have hB3 : Below W.heap.size W w3 := below_undrew hb3
  have HB3 := Lib.hid hB3
  clear hb3 hB3
  gi_wp2
  refine stage_post (isSame_below HB3.out (fun k hk => hk)) ?_
  refine stage_one 3 (by kernel_rfl) rfl ?_
  gi_wp2
  refine ⟨trivial, ?_⟩
  refine (callsIn_wide.2 (sign_any q _ w3 (HV'.out.below (HB.out.trans ((below_drew3 HB3.out).mono HB.out.size))))).mono ?_
  rintro e w4 ⟨rfl, hb4⟩
  rw [HGY.out]
  have hB4 : Below W.heap.size W w4 := HB3.out.trans (hb4.mono HB3.out.size)
  have HB4 := Lib.hid hB4
  clear hb4 hB4
  gi_wp2
  refine stage_post (isSame_below HB4.out (fun k hk => hk)) ?_
  refine stage_one 4 (by kernel_rfl) rfl ?_
  gi_wp2
  refine stage_post (isSame_below HB4.out (fun k hk => hk)) ?_
  refine stage_one 5 (by kernel_rfl) rfl ?_
  gi_wp2
  refine stage_post (isSame_below HB4.out (fun k hk => hk)) ?_
  refine stage_done (by kernel_rfl) ?_
  clear x0 x1 x2 y0 y1 y2
  have hsz := HS.out
  obtain ⟨x0, x1, x2⟩ := rows3 (P0.out.below HB4.out (by omega))
  obtain ⟨y0, y1, y2⟩ := rows3 (P1.out.below HB4.out (by omega))
  clear hsz
  gi_wp2
  refine bodyPost_ret (results_tmp rfl _ _ _) rfl ?_
  exact ⟨_, rfl, HE.out, HB.out.trans ((below_drew3 HB4.out).mono HB.out.size)⟩

set_option maxRecDepth 100000 in
set_option maxHeartbeats 2000000 in
theorem fcmp_pos (p q : Rat) (v v' : Value) (w : World) (h : IsFrac w v p) (h' : IsFrac w v' q) (l1 : (toL (nm p)).length ≤ 10000) (l2 : (toL p.den).length ≤ 10000) (l3 : (toL (nm q)).length ≤ 10000) (l4 : (toL q.den).length ≤ 10000) (heq : sgQ p = sgQ q) (hm : ng p = false) :
    Calls Tryz.prog 104 #[v, v'] w fun e w' => ∃ c : Int, e = .returned (.int .i64 c) ∧ max (-1) (min 1 c) = cmpQ p q ∧ Below w.heap.size w w' := by
  have HV := Lib.hid h
  have HV' := Lib.hid h'
  have HE := Lib.hid (cmp_pos heq hm)
  have hxy : (sgQ p == sgQ q) = true := by rw [beq_iff_eq]; exact heq
  clear heq
  obtain ⟨b, N, D, An, cn, Ad, cd, rfl, hn, hd, HP⟩ := isFrac_open h
  obtain ⟨b', N', D', An', cn', Ad', cd', rfl, hn', hd', HQ⟩ := isFrac_open h'
  obtain ⟨e1, e2, e3⟩ := HP.out
  obtain ⟨f1, f2, f3⟩ := HQ.out
  rw [e2] at l1
  rw [e3] at l2
  rw [f2] at l3
  rw [f3] at l4
  have HN := Lib.hid hn
  have HD := Lib.hid hd
  have HN' := Lib.hid hn'
  have HD' := Lib.hid hd'
  obtain rfl : b = false := e1.symm.trans hm
  have hz := sgn_bound (N * D') (N' * D)
  rw [e2, e3, f2, f3] at HE
  clear hm
  clear hn hd hn' hd' h h' e1 e2 e3 f1 f2 f3
  have lx := Nat.le_trans (toL_mul_len N D') (show _ ≤ 20000 by omega)
  generalize hgx : sgQ p = x at hxy
  generalize hgy : sgQ q = y at hxy
  have HGX := Lib.hid hgx
  have HGY := Lib.hid hgy
  clear hgx hgy
  refine (callsIn_wide (n := 3)).1 ?_
  have h1 : 1 ≤ 3 := by omega
  have hmx : Tryz.prog.follows .mixedOrders = true := by kernel_rfl
  refine callsIn_of_wp Tryz.func104 rfl trivial ?_ rfl
  simp only [Tryz.ntmps104, List.size_toArray, List.length_cons, List.length_nil, Nat.reduceAdd, Nat.reduceSub, Array.replicate_succ, Array.replicate_zero, List.push_toArray, List.append_toArray, List.nil_append, List.cons_append]
  gi_upto_region 1 with fail
  obtain ⟨b0, b1, hB, hs⟩ := box2_blk w (.bool false) (.slice An (toL N).length cn) (.slice Ad (toL D).length cd) (.bool b') (.slice An' (toL N').length cn') (.slice Ad' (toL D').length cd')
  generalize (w.alloc (.cells #[.bool false, .slice An (toL N).length cn, .slice Ad (toL D).length cd] 50)).alloc (.cells #[.bool b', .slice An' (toL N').length cn', .slice Ad' (toL D').length cd'] 50) = W at *
  obtain ⟨x0, x1, x2⟩ := same_cells (S := fun k => k < W.heap.size) b0 (by omega)
  obtain ⟨y0, y1, y2⟩ := same_cells (S := fun k => k < W.heap.size) b1 (by omega)
  have HB := Lib.hid (below_drew hB)
  have HS := Lib.hid hs
  have P0 := Lib.hid b0
  have P1 := Lib.hid b1
  clear b0 b1 hB hs
  refine wpIn_stage (IsSame W (fun k => k < W.heap.size)) [0, 2] [] hmx (by kernel_rfl) (isSame_of fun _ _ => rfl) ?_
  change wpStage _ _ _ _ _ _ _ _ (4 + 2) _ _ _
  refine stage_reads [0, 2] 4 _ _ (by kernel_rfl) ?_
  change wpQuietIn _ _ _ _ (fun W' => ∃ x : SameAt W (fun k => k < W.heap.size), W' = x.W) _ _ _
  simp only [pick_cons, pick_nil, List.getElem?_cons_zero, List.getElem?_cons_succ, Option.elim_some]
  repeat (gi_big_quiet_step (fail))
  refine wpQuietIn_nil ?_
  refine stage_one 1 (by kernel_rfl) rfl ?_
  gi_wp2
  refine ⟨trivial, ?_⟩
  refine (callsIn_wide.2 (sign_any p _ W.drew (HV.out.below HB.out))).mono ?_
  rintro e w3 ⟨rfl, hb3⟩
  rw [HGX.out]
  have hB3 : Below W.heap.size W w3 := below_undrew hb3
  have HB3 := Lib.hid hB3
  clear hb3 hB3
  gi_wp2
  refine stage_post (isSame_below HB3.out (fun k hk => hk)) ?_
  refine stage_one 3 (by kernel_rfl) rfl ?_
  gi_wp2
  refine ⟨trivial, ?_⟩
  refine (callsIn_wide.2 (sign_any q _ w3 (HV'.out.below (HB.out.trans ((below_drew3 HB3.out).mono HB.out.size))))).mono ?_
  rintro e w4 ⟨rfl, hb4⟩
  rw [HGY.out]
  have hB4 : Below W.heap.size W w4 := HB3.out.trans (hb4.mono HB3.out.size)
  have HB4 := Lib.hid hB4
  clear hb4 hB4
  gi_wp2
  refine stage_post (isSame_below HB4.out (fun k hk => hk)) ?_
  refine stage_one 4 (by kernel_rfl) rfl ?_
  gi_wp2
  refine stage_post (isSame_below HB4.out (fun k hk => hk)) ?_
  refine stage_one 5 (by kernel_rfl) rfl ?_
  gi_wp2
  refine stage_post (isSame_below HB4.out (fun k hk => hk)) ?_
  refine stage_done (by kernel_rfl) ?_
  clear x0 x1 x2 y0 y1 y2
  have hsz := HS.out
  obtain ⟨x0, x1, x2⟩ := rows3 (P0.out.below HB4.out (by omega))
  obtain ⟨y0, y1, y2⟩ := rows3 (P1.out.below HB4.out (by omega))
  clear hsz
  have Q0 := Lib.hid (P0.out.below HB4.out (by have := HS.out; omega))
  have Q1 := Lib.hid (P1.out.below HB4.out (by have := HS.out; omega))
  have h42 := HB4.out.size
  gi_upto_region 4 with fail
  clear x0 x1 x2 y0 y1 y2
  have hsz := HS.out
  obtain ⟨x0, x1, x2⟩ := same_cells (S := fun k => k < w4.heap.size) Q0.out (by omega)
  obtain ⟨y0, y1, y2⟩ := same_cells (S := fun k => k < w4.heap.size) Q1.out (by omega)
  clear hsz
  have HB40 := Lib.hid (below_drew (HB.out.trans ((below_drew3 HB4.out).mono HB.out.size)))
  refine wpIn_stage (IsSame w4 (fun k => k < w4.heap.size)) [0, 1, 2, 3, 5, 6, 7, 8] [] hmx (by kernel_rfl) (isSame_of fun _ _ => rfl) ?_
  change wpStage _ _ _ _ _ _ _ _ (4 + 8) _ _ _
  refine stage_reads [0, 1, 2, 3, 5, 6, 7, 8] 4 _ _ (by kernel_rfl) ?_
  change wpQuietIn _ _ _ _ (fun W' => ∃ x : SameAt w4 (fun k => k < w4.heap.size), W' = x.W) _ _ _
  simp only [pick_cons, pick_nil, List.getElem?_cons_zero, List.getElem?_cons_succ, Option.elim_some]
  repeat (gi_big_quiet_step (fail))
  refine wpQuietIn_nil ?_
  refine stage_one 4 (by kernel_rfl) rfl ?_
  gi_wp2
  refine ⟨trivial, ?_⟩
  refine (callsIn_wide.2 (mul_any N D' _ _ w4.drew (HN.out.below HB40.out) (HD'.out.below HB40.out) (by omega) (by omega))).mono ?_
  rintro e w5 ⟨v5, rfl, hv5, hb5⟩
  obtain ⟨A5, c5, rfl, _, _, _⟩ := id hv5
  have HV5 := Lib.hid hv5
  have hB5 : Below w4.heap.size w4 w5 := below_undrew hb5
  have HB5 := Lib.hid hB5
  clear hv5 hb5 hB5
  gi_wp2
  refine stage_post (isSame_below HB5.out (fun k hk => hk)) ?_
  refine stage_one 9 (by kernel_rfl) rfl ?_
  gi_wp2
  have HB50 := Lib.hid (HB40.out.trans ((below_drew3 HB5.out).mono HB40.out.size))
  refine ⟨trivial, ?_⟩
  refine (callsIn_wide.2 (mul_any N' D _ _ w5 (HN'.out.below HB50.out) (HD.out.below HB50.out) (by omega) (by omega))).mono ?_
  rintro e w6 ⟨v6, rfl, hv6, hb6⟩
  obtain ⟨A6, c6, rfl, _, _, _⟩ := id hv6
  have HV6 := Lib.hid hv6
  have HV5 := Lib.hid (HV5.out.below hb6)
  have hB6 : Below w4.heap.size w4 w6 := HB5.out.trans (hb6.mono HB5.out.size)
  have HB6 := Lib.hid hB6
  clear hv6 hb6 hB6
  gi_wp2
  refine stage_post (isSame_below HB6.out (fun k hk => hk)) ?_
  refine stage_one 10 (by kernel_rfl) rfl ?_
  gi_wp2
  refine ⟨trivial, ?_⟩
  refine (callsIn_wide.2 (cmp_any (N * D') (N' * D) _ _ w6 HV5.out HV6.out (by omega))).mono ?_
  rintro e w7 ⟨rfl, hb7⟩
  generalize hgz : sgn (N * D') (N' * D) = z at hz HE ⊢
  obtain ⟨hz1, hz2⟩ := hz
  clear hgz
  have hB7 : Below w4.heap.size w4 w7 := HB6.out.trans (hb7.mono HB6.out.size)
  have HB7 := Lib.hid hB7
  clear hb7 hB7
  gi_wp2
  refine stage_post (isSame_below HB7.out (fun k hk => hk)) ?_
  refine stage_one 11 (by kernel_rfl) rfl ?_
  gi_wp2
  refine stage_post (isSame_below HB7.out (fun k hk => hk)) ?_
  refine stage_done (by kernel_rfl) ?_
  clear x0 x1 x2 y0 y1 y2
  obtain ⟨x0, x1, x2⟩ := rows3 (Q0.out.below HB7.out (by have := HS.out; omega))
  gi_wp2
  refine bodyPost_ret (results_tmp rfl _ _ _) rfl ?_
  exact ⟨_, rfl, by rw [clamp_id (by omega)]; exact HE.out, HB.out.trans ((below_drew3 (HB4.out.trans (HB7.out.mono h42))).mono HB.out.size)⟩

set_option maxRecDepth 100000 in
set_option maxHeartbeats 2000000 in
theorem fcmp_neg (p q : Rat) (v v' : Value) (w : World) (h : IsFrac w v p) (h' : IsFrac w v' q) (l1 : (toL (nm p)).length ≤ 10000) (l2 : (toL p.den).length ≤ 10000) (l3 : (toL (nm q)).length ≤ 10000) (l4 : (toL q.den).length ≤ 10000) (heq : sgQ p = sgQ q) (hm : ng p = true) :
    Calls Tryz.prog 104 #[v, v'] w fun e w' => ∃ c : Int, e = .returned (.int .i64 c) ∧ max (-1) (min 1 c) = cmpQ p q ∧ Below w.heap.size w w' := by
  have HV := Lib.hid h
  have HV' := Lib.hid h'
  have HE := Lib.hid (cmp_neg heq hm)
  have hxy : (sgQ p == sgQ q) = true := by rw [beq_iff_eq]; exact heq
  clear heq
  obtain ⟨b, N, D, An, cn, Ad, cd, rfl, hn, hd, HP⟩ := isFrac_open h
  obtain ⟨b', N', D', An', cn', Ad', cd', rfl, hn', hd', HQ⟩ := isFrac_open h'
  obtain ⟨e1, e2, e3⟩ := HP.out
  obtain ⟨f1, f2, f3⟩ := HQ.out
  rw [e2] at l1
  rw [e3] at l2
  rw [f2] at l3
  rw [f3] at l4
  have HN := Lib.hid hn
  have HD := Lib.hid hd
  have HN' := Lib.hid hn'
  have HD' := Lib.hid hd'
  obtain rfl : b = true := e1.symm.trans hm
  have hz := sgn_bound (N * D') (N' * D)
  rw [e2, e3, f2, f3] at HE
  clear hm
  clear hn hd hn' hd' h h' e1 e2 e3 f1 f2 f3
  have lx := Nat.le_trans (toL_mul_len N D') (show _ ≤ 20000 by omega)
  generalize hgx : sgQ p = x at hxy
  generalize hgy : sgQ q = y at hxy
  have HGX := Lib.hid hgx
  have HGY := Lib.hid hgy
  clear hgx hgy
  refine (callsIn_wide (n := 3)).1 ?_
  have h1 : 1 ≤ 3 := by omega
  have hmx : Tryz.prog.follows .mixedOrders = true := by kernel_rfl
  refine callsIn_of_wp Tryz.func104 rfl trivial ?_ rfl
  simp only [Tryz.ntmps104, List.size_toArray, List.length_cons, List.length_nil, Nat.reduceAdd, Nat.reduceSub, Array.replicate_succ, Array.replicate_zero, List.push_toArray, List.append_toArray, List.nil_append, List.cons_append]
  gi_upto_region 1 with fail
  obtain ⟨b0, b1, hB, hs⟩ := box2_blk w (.bool true) (.slice An (toL N).length cn) (.slice Ad (toL D).length cd) (.bool b') (.slice An' (toL N').length cn') (.slice Ad' (toL D').length cd')
  generalize (w.alloc (.cells #[.bool true, .slice An (toL N).length cn, .slice Ad (toL D).length cd] 50)).alloc (.cells #[.bool b', .slice An' (toL N').length cn', .slice Ad' (toL D').length cd'] 50) = W at *
  obtain ⟨x0, x1, x2⟩ := same_cells (S := fun k => k < W.heap.size) b0 (by omega)
  obtain ⟨y0, y1, y2⟩ := same_cells (S := fun k => k < W.heap.size) b1 (by omega)
  have HB := Lib.hid (below_drew hB)
  have HS := Lib.hid hs
  have P0 := Lib.hid b0
  have P1 := Lib.hid b1
  clear b0 b1 hB hs
  refine wpIn_stage (IsSame W (fun k => k < W.heap.size)) [0, 2] [] hmx (by kernel_rfl) (isSame_of fun _ _ => rfl) ?_
  change wpStage _ _ _ _ _ _ _ _ (4 + 2) _ _ _
  refine stage_reads [0, 2] 4 _ _ (by kernel_rfl) ?_
  change wpQuietIn _ _ _ _ (fun W' => ∃ x : SameAt W (fun k => k < W.heap.size), W' = x.W) _ _ _
  simp only [pick_cons, pick_nil, List.getElem?_cons_zero, List.getElem?_cons_succ, Option.elim_some]
  repeat (gi_big_quiet_step (fail))
  refine wpQuietIn_nil ?_
  refine stage_one 1 (by kernel_rfl) rfl ?_
  gi_wp2
  refine ⟨trivial, ?_⟩
  refine (callsIn_wide.2 (sign_any p _ W.drew (HV.out.below HB.out))).mono ?_
  rintro e w3 ⟨rfl, hb3⟩
  rw [HGX.out]
  have hB3 : Below W.heap.size W w3 := below_undrew hb3
  have HB3 := Lib.hid hB3
  clear hb3 hB3
  gi_wp2
  refine stage_post (isSame_below HB3.out (fun k hk => hk)) ?_
  refine stage_one 3 (by kernel_rfl) rfl ?_
  gi_wp2
  refine ⟨trivial, ?_⟩
  refine (callsIn_wide.2 (sign_any q _ w3 (HV'.out.below (HB.out.trans ((below_drew3 HB3.out).mono HB.out.size))))).mono ?_
  rintro e w4 ⟨rfl, hb4⟩
  rw [HGY.out]
  have hB4 : Below W.heap.size W w4 := HB3.out.trans (hb4.mono HB3.out.size)
  have HB4 := Lib.hid hB4
  clear hb4 hB4
  gi_wp2
  refine stage_post (isSame_below HB4.out (fun k hk => hk)) ?_
  refine stage_one 4 (by kernel_rfl) rfl ?_
  gi_wp2
  refine stage_post (isSame_below HB4.out (fun k hk => hk)) ?_
  refine stage_one 5 (by kernel_rfl) rfl ?_
  gi_wp2
  refine stage_post (isSame_below HB4.out (fun k hk => hk)) ?_
  refine stage_done (by kernel_rfl) ?_
  clear x0 x1 x2 y0 y1 y2
  have hsz := HS.out
  obtain ⟨x0, x1, x2⟩ := rows3 (P0.out.below HB4.out (by omega))
  obtain ⟨y0, y1, y2⟩ := rows3 (P1.out.below HB4.out (by omega))
  clear hsz
  have Q0 := Lib.hid (P0.out.below HB4.out (by have := HS.out; omega))
  have Q1 := Lib.hid (P1.out.below HB4.out (by have := HS.out; omega))
  have h42 := HB4.out.size
  gi_upto_region 4 with fail
  clear x0 x1 x2 y0 y1 y2
  have hsz := HS.out
  obtain ⟨x0, x1, x2⟩ := same_cells (S := fun k => k < w4.heap.size) Q0.out (by omega)
  obtain ⟨y0, y1, y2⟩ := same_cells (S := fun k => k < w4.heap.size) Q1.out (by omega)
  clear hsz
  have HB40 := Lib.hid (below_drew (HB.out.trans ((below_drew3 HB4.out).mono HB.out.size)))
  refine wpIn_stage (IsSame w4 (fun k => k < w4.heap.size)) [0, 1, 2, 3, 5, 6, 7, 8] [] hmx (by kernel_rfl) (isSame_of fun _ _ => rfl) ?_
  change wpStage _ _ _ _ _ _ _ _ (4 + 8) _ _ _
  refine stage_reads [0, 1, 2, 3, 5, 6, 7, 8] 4 _ _ (by kernel_rfl) ?_
  change wpQuietIn _ _ _ _ (fun W' => ∃ x : SameAt w4 (fun k => k < w4.heap.size), W' = x.W) _ _ _
  simp only [pick_cons, pick_nil, List.getElem?_cons_zero, List.getElem?_cons_succ, Option.elim_some]
  repeat (gi_big_quiet_step (fail))
  refine wpQuietIn_nil ?_
  refine stage_one 4 (by kernel_rfl) rfl ?_
  gi_wp2
  refine ⟨trivial, ?_⟩
  refine (callsIn_wide.2 (mul_any N D' _ _ w4.drew (HN.out.below HB40.out) (HD'.out.below HB40.out) (by omega) (by omega))).mono ?_
  rintro e w5 ⟨v5, rfl, hv5, hb5⟩
  obtain ⟨A5, c5, rfl, _, _, _⟩ := id hv5
  have HV5 := Lib.hid hv5
  have hB5 : Below w4.heap.size w4 w5 := below_undrew hb5
  have HB5 := Lib.hid hB5
  clear hv5 hb5 hB5
  gi_wp2
  refine stage_post (isSame_below HB5.out (fun k hk => hk)) ?_
  refine stage_one 9 (by kernel_rfl) rfl ?_
  gi_wp2
  have HB50 := Lib.hid (HB40.out.trans ((below_drew3 HB5.out).mono HB40.out.size))
  refine ⟨trivial, ?_⟩
  refine (callsIn_wide.2 (mul_any N' D _ _ w5 (HN'.out.below HB50.out) (HD.out.below HB50.out) (by omega) (by omega))).mono ?_
  rintro e w6 ⟨v6, rfl, hv6, hb6⟩
  obtain ⟨A6, c6, rfl, _, _, _⟩ := id hv6
  have HV6 := Lib.hid hv6
  have HV5 := Lib.hid (HV5.out.below hb6)
  have hB6 : Below w4.heap.size w4 w6 := HB5.out.trans (hb6.mono HB5.out.size)
  have HB6 := Lib.hid hB6
  clear hv6 hb6 hB6
  gi_wp2
  refine stage_post (isSame_below HB6.out (fun k hk => hk)) ?_
  refine stage_one 10 (by kernel_rfl) rfl ?_
  gi_wp2
  refine ⟨trivial, ?_⟩
  refine (callsIn_wide.2 (cmp_any (N * D') (N' * D) _ _ w6 HV5.out HV6.out (by omega))).mono ?_
  rintro e w7 ⟨rfl, hb7⟩
  generalize hgz : sgn (N * D') (N' * D) = z at hz HE ⊢
  obtain ⟨hz1, hz2⟩ := hz
  clear hgz
  have hB7 : Below w4.heap.size w4 w7 := HB6.out.trans (hb7.mono HB6.out.size)
  have HB7 := Lib.hid hB7
  clear hb7 hB7
  gi_wp2
  refine stage_post (isSame_below HB7.out (fun k hk => hk)) ?_
  refine stage_one 11 (by kernel_rfl) rfl ?_
  gi_wp2
  refine stage_post (isSame_below HB7.out (fun k hk => hk)) ?_
  refine stage_done (by kernel_rfl) ?_
  clear x0 x1 x2 y0 y1 y2
  obtain ⟨x0, x1, x2⟩ := rows3 (Q0.out.below HB7.out (by have := HS.out; omega))
  gi_wp2
  refine bodyPost_ret (results_tmp rfl _ _ _) rfl ?_
  exact ⟨_, rfl, by rw [clamp_id (by omega)]; exact HE.out, HB.out.trans ((below_drew3 (HB4.out.trans (HB7.out.mono h42))).mono HB.out.size)⟩

theorem fcmp_any (p q : Rat) (v v' : Value) (w : World) (h : IsFrac w v p) (h' : IsFrac w v' q) (l1 : (toL (nm p)).length ≤ 10000) (l2 : (toL p.den).length ≤ 10000) (l3 : (toL (nm q)).length ≤ 10000) (l4 : (toL q.den).length ≤ 10000) :
    Calls Tryz.prog 104 #[v, v'] w fun e w' => ∃ c : Int, e = .returned (.int .i64 c) ∧ max (-1) (min 1 c) = cmpQ p q ∧ Below w.heap.size w w' := by
  by_cases hs : sgQ p = sgQ q
  · cases hm : ng p with
    | false => exact fcmp_pos p q v v' w h h' l1 l2 l3 l4 hs hm
    | true => exact fcmp_neg p q v v' w h h' l1 l2 l3 l4 hs hm
  · exact fcmp_ne p q v v' w h h' l1 l2 l3 l4 hs
end Go.Proofs.YtjoifmnolmimkaaGreatDoor
namespace Go.Proofs.YtjoifmnolmimkaaGreatDoor
open Lim

/-- The size of the integer below or above a number. -/
def roundP (m : Bool) (n d : Nat) (up : Bool) : Nat := if (n % d ≠ 0) ∧ (m ≠ up) then n / d + 1 else n / d
theorem mkQ_int (m : Bool) (n : Nat) : mkQ m n 1 = (((if m then -(n : Int) else (n : Int)) : Int) : Rat) := by
  unfold mkQ
  rw [Rat.mkRat_one]
theorem mkQ_neg (m : Bool) (n d : Nat) : mkQ (!m) n d = -mkQ m n d := by
  unfold mkQ
  rw [Rat.neg_mkRat]
  cases m <;> simp
theorem mkQ_drop (m : Bool) (n d : Nat) : mkQ (m && decide (n ≠ 0)) n d = mkQ m n d := by
  by_cases h : n = 0
  · subst h; rw [mkQ_zero, mkQ_zero]
  · rw [decide_eq_true h, Bool.and_true]
theorem round_floor (q : Rat) : mkQ (ng q) (roundP (ng q) (nm q) q.den false) 1 = (q.floor : Rat) := by
  rw [mkQ_int]
  congr 1
  rw [Rat.floor_def, num_of q]
  have hd := den_pos q
  have hmod := Nat.mod_lt (nm q) hd
  have hdiv := Nat.div_add_mod (nm q) q.den
  generalize nm q = n at *
  generalize q.den = d at *
  generalize ng q = m at *
  have hd' : (0 : Int) < (d : Int) := by omega
  unfold roundP
  cases m with
  | false => simp
  | true =>
    simp only [if_true]
    by_cases h : n % d = 0
    · rw [if_neg (by omega)]
      symm
      refine ((Int.ediv_emod_unique (r := 0) hd').2 ⟨?_, by omega, hd'⟩).1
      rw [h, Nat.add_zero] at hdiv
      rw [Int.mul_neg, ← Int.natCast_mul, hdiv]
      omega
    · rw [if_pos ⟨h, by decide⟩]
      symm
      refine ((Int.ediv_emod_unique (r := (d : Int) - ((n % d : Nat) : Int)) hd').2 ⟨?_, by omega, by omega⟩).1
      rw [Int.mul_neg, ← Int.natCast_mul, Nat.mul_add, Nat.mul_one]
      omega
theorem round_ceil (q : Rat) : mkQ (ng q) (roundP (ng q) (nm q) q.den true) 1 = (q.ceil : Rat) := by
  rw [Rat.ceil_eq_neg_floor_neg]
  have h := round_floor (-q)
  obtain ⟨h1, h2, h3⟩ := neg_parts q
  rw [h1, h2, h3] at h
  rw [Rat.intCast_neg, ← h]
  by_cases h0 : nm q = 0
  · have e1 : ∀ b c : Bool, roundP b (nm q) q.den c = 0 := fun b c => by unfold roundP; rw [h0]; simp
    rw [e1, e1, mkQ_zero, mkQ_zero]; rfl
  · rw [decide_eq_true h0, Bool.and_true, mkQ_neg, Rat.neg_neg]
    congr 1
    unfold roundP
    cases ng q <;> simp
theorem roundP_le (m : Bool) (n d : Nat) (up : Bool) : roundP m n d up ≤ n + 1 := by
  unfold roundP
  have := Nat.div_le_self n d
  split <;> omega
end Go.Proofs.YtjoifmnolmimkaaGreatDoor
