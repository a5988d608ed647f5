/- The reference: twice, the error of a column's values, Valid, Clamp. -/
import Derived.Test.YtlocafmglficnaaGreatDoorTabRNames
namespace Go.Proofs.YtlocafmglficnaaGreatDoor
open Go.RowKit Go.Maps Go.Sort Go.Shelf

theorem dup_hit {ss : List ByteArray} {k a : Nat} (hk : k < a) (ha : a < ss.length) (h : ss[k] = ss[a]) : dupS ss = true := by
  unfold dupS
  have : ¬ ss.Nodup := fun hn => List.pairwise_iff_getElem.1 hn k a (by omega) ha hk h
  rw [decide_eq_false this]
  rfl
theorem dup_miss {ss : List ByteArray} (h : ∀ j (hj : j < ss.length), ∀ i (hi : i < j), ss[i]'(by omega) ≠ ss[j]) : dupS ss = false := by
  unfold dupS
  have : ss.Nodup := List.pairwise_iff_getElem.2 fun i j hi hj hij => h j hj i hij
  rw [decide_eq_true this]
  rfl
theorem str_at {C : TypeId → Nat → Prop} {w : World} {A : Option Addr} {c : Nat} {ss : List ByteArray} (h : SRow strK C w (.slice A ss.length c) ss) {j : Nat} (hj : j < ss.length) : ∃ b o, A = some ⟨b, o, none⟩ ∧ w.cell? ⟨b, o + j, none⟩ = some (.string ss[j]) ∧ ss[j].size ≤ maxLen := by
  obtain ⟨A', c', e, _, _, hs, h3⟩ := h.strs
  simp only [Value.slice.injEq, true_and] at e
  obtain ⟨rfl, rfl⟩ := e
  obtain ⟨b, o, eA, hx⟩ := h3 (by omega)
  exact ⟨b, o, eA, hx j hj, hs j hj⟩

set_option maxRecDepth 100000 in
set_option maxHeartbeats 4000000 in
theorem twice_any (C : TypeId → Nat → Prop) (v : Value) (ss : List ByteArray) (w : World) (h : SRow strK C w v ss) (hn : ss.length ≤ 1000000) :
    Calls Tryz.prog 77 #[v] w fun e w' => e = .returned (.bool (dupS ss)) ∧ Below w.heap.size w w' := by
  have HV := Lib.hid h
  obtain ⟨A, ca, rfl, hl, hm⟩ := h.slice
  unfold maxLen at hm
  clear h
  refine (callsIn_wide (n := 6)).1 ?_
  have h1 : 1 ≤ 6 := by omega
  refine callsIn_of_wp Tryz.func77 rfl trivial ?_ rfl
  simp only [Tryz.ntmps77, List.size_toArray, List.length_cons, List.length_nil, Nat.reduceAdd, Nat.reduceSub, Array.replicate_succ, Array.replicate_zero, List.push_toArray, List.append_toArray, List.nil_append, List.cons_append]
  gi_wp2
  gi_loopw [3] (fun i wr => ∃ a : Nat, a ≤ ss.length ∧ i = .int .i64 a ∧ (∀ j (hj : j < ss.length), j < a → ∀ i (hi : i < j), ss[i]'(by omega) ≠ ss[j]) ∧ Below w.heap.size w wr) (fun i _ => ss.length - (intOf i).toNat)
  case atStart => exact ⟨0, Nat.zero_le _, rfl, fun j hj h0 => by omega, Below.refl _ _⟩
  case round =>
    obtain ⟨a, ha, rfl, hall, hB⟩ := hrel
    have HA := Lib.hid hall
    have HB := Lib.hid hB
    have ha0 : (0 : Int) ≤ (a : Int) := by omega
    clear hall
    by_cases hlt : a < ss.length
    · have ha1 : (a : Int) < (ss.length : Int) := by omega
      have HLT := Lib.hid hlt
      clear hB
      obtain ⟨wo, rfl⟩ : ∃ wo, wo = wr := ⟨_, rfl⟩
      gi_wp2
      gi_loopw [4] (fun i wr => ∃ k : Nat, k ≤ a ∧ i = .int .i64 k ∧ (∀ i (hi : i < k) (hia : i < ss.length), ss[i] ≠ ss[a]'hlt) ∧ Below w.heap.size w wr) (fun i _ => a - (intOf i).toNat)
      case atStart => exact ⟨0, Nat.zero_le _, rfl, fun i hi => by omega, HB.out⟩
      case round =>
        obtain ⟨k, hk, rfl, hin, hB⟩ := hrel
        have HI := Lib.hid hin
        have HB2 := Lib.hid hB
        have hk0 : (0 : Int) ≤ (k : Int) := by omega
        clear hin
        by_cases hka : k < a
        · have hk1 : (k : Int) < (a : Int) := by omega
          have hk2 : (k : Int) < (ss.length : Int) := by omega
          have hkl : k < ss.length := by omega
          obtain ⟨b, o, rfl, q0, hz0⟩ := str_at (HV.out.below hB) hkl
          obtain ⟨b2, o2, e2, q1, hz1⟩ := str_at (HV.out.below hB) hlt
          simp only [Option.some.injEq, Addr.mk.injEq, and_true] at e2
          obtain ⟨rfl, rfl⟩ := e2
          have hbl := cell_lt q0
          have HKA := Lib.hid hka
          clear hB
          by_cases he : ss[k] = ss[a]
          · have HD := Lib.hid (dup_hit hka hlt he)
            have e1 := beq_str he
            clear he
            generalize ss[k] = sk at *
            generalize ss[a] = sa at *
            have HBQ := Lib.hid (show ∀ q, Below w.heap.size w (wr.drewN q) from fun q => HB2.out.trans ⟨rfl, rfl, rfl, Nat.le_refl _, fun _ _ => rfl⟩)
            gi_wp2_with fail
            gi_quiet (fail)
            gi_wp2_with fail
            refine bodyPost_ret (results_tmp rfl _ _ _) rfl ?_
            exact ⟨by rw [HD.out]; rfl, HBQ.out _⟩
          · have HN := Lib.hid (show ∀ i (hi : i < k + 1) (hia : i < ss.length), ss[i] ≠ ss[a]'hlt from fun i hi hia => by
              rcases Nat.lt_or_ge i k with h | h
              · exact HI.out i h hia
              · obtain rfl : i = k := by omega
                exact he)
            have e1 := bne_str he
            clear he
            generalize ss[k] = sk at *
            generalize ss[a] = sa at *
            have HBQ := Lib.hid (show ∀ q, Below w.heap.size w (wr.drewN q) from fun q => HB2.out.trans ⟨rfl, rfl, rfl, Nat.le_refl _, fun _ _ => rfl⟩)
            gi_wp2_with fail
            gi_quiet (fail)
            gi_wp2_with fail
            go_roundw
            case rel => exact ⟨k + 1, HKA.out, by go_num, HN.out, HBQ.out _⟩
            case measure => have := HKA.out; simp [intOf]; omega
        · obtain rfl : k = a := by omega
          have HN := Lib.hid (show ∀ j (hj : j < ss.length), j < k + 1 → ∀ i (hi : i < j), ss[i]'(by omega) ≠ ss[j] from fun j hj hjk i hi => by
            rcases Nat.lt_or_ge j k with h | h
            · exact HA.out j hj h i hi
            · obtain rfl : j = k := by omega
              exact HI.out i hi (by omega))
          clear hB hka
          gi_wp2
          go_roundw
          case rel => exact ⟨k + 1, HLT.out, by go_num, HN.out, HB2.out⟩
          case measure => have := HLT.out; simp [intOf]; omega
    · obtain rfl : a = ss.length := by omega
      have HD := Lib.hid (dup_miss fun j hj i hi => HA.out j hj hj i hi)
      clear hlt hB
      gi_wp2
      refine bodyPost_ret (results_tmp rfl _ _ _) rfl ?_
      exact ⟨by rw [HD.out]; rfl, HB.out⟩

/-- The error of a column's values. -/
def valsErr (c : Col) : Int := if 0 < c.words.length then wordsErr c else if c.lo < -1000000 ∨ 1000000 < c.hi ∨ c.hi < c.lo then 2 else 0
theorem colErr_vals {pre : List Col} {c : Col} (h1 : nameB c.name = true) (h2 : pre.any (fun d => decide (d.name = c.name)) = false) : colErr pre c = valsErr c := by
  unfold colErr valsErr
  rw [h1, if_neg (by simp), if_neg (by rw [h2]; simp)]
theorem words_all {ss : List ByteArray} (h : ∀ j (hj : j < ss.length), nameB ss[j] = true) : ss.any (fun s => !nameB s) = false := by
  rw [List.any_eq_false]
  intro s hs
  obtain ⟨j, hj, rfl⟩ := List.getElem_of_mem hs
  simp [h j hj]

set_option maxRecDepth 100000 in
set_option maxHeartbeats 8000000 in
theorem rcolumn_any (C : TypeId → Nat → Prop) (v : Value) (c : Col) (w : World) (h : ColVal C w v c) :
    Calls Tryz.prog 62 #[v] w fun e w' => e = .returned (.int .i64 (valsErr c)) ∧ Below w.heap.size w w' := by
  obtain ⟨u, rfl, hw, hs⟩ := h
  obtain ⟨A, cc, rfl, hle, hmx⟩ := hw.slice
  unfold maxLen at hmx
  have HB0 := Lib.hid (below_alloc w (.cells #[.string c.name, .int .i64 c.lo, .int .i64 c.hi, .slice A c.words.length cc] 25))
  have HB4 := Lib.hid (box4 w (.string c.name) (.int .i64 c.lo) (.int .i64 c.hi) (.slice A c.words.length cc) 25)
  have HW := Lib.hid (hw.below HB0.out)
  have hbz : w.heap.size < (w.alloc (.cells #[.string c.name, .int .i64 c.lo, .int .i64 c.hi, .slice A c.words.length cc] 25)).heap.size := by simp
  clear hw hs
  refine (callsIn_wide (n := 6)).1 ?_
  have h1 : 1 ≤ 6 := by omega
  refine callsIn_of_wp Tryz.func62 rfl trivial ?_ rfl
  simp only [Tryz.ntmps62, List.size_toArray, List.length_cons, List.length_nil, Nat.reduceAdd, Nat.reduceSub, Array.replicate_succ, Array.replicate_zero, List.push_toArray, List.append_toArray, List.nil_append, List.cons_append]
  by_cases hwl : 0 < c.words.length
  · have HE := Lib.hid (show valsErr c = wordsErr c by unfold valsErr; rw [if_pos hwl])
    have hwz : (c.words.length : Int) ≠ 0 := by omega
    have hwb : ((c.words.length : Int) == 0) = false := beq_eq_false_iff_ne.2 (by omega)
    by_cases hl64 : 64 < c.words.length
    · have HV := Lib.hid (show wordsErr c = 4 by unfold wordsErr; rw [if_pos hl64])
      have hl2 : (64 : Int) < (c.words.length : Int) := by omega
      gi_wp2
      refine bodyPost_ret (results_tmp rfl _ _ _) rfl ?_
      exact ⟨by rw [HE.out, HV.out]; rfl, HB0.out⟩
    · have hl2 : ¬ (64 : Int) < (c.words.length : Int) := by omega
      have HL64 := Lib.hid hl64
      gi_wp2
      generalize w.alloc (.cells #[.string c.name, .int .i64 c.lo, .int .i64 c.hi, .slice A c.words.length cc] 25) = w1 at *
      gi_loopw [4] (fun i wr => ∃ k : Nat, k ≤ c.words.length ∧ i = .int .i64 k ∧ (∀ j (hj : j < c.words.length), j < k → nameB c.words[j] = true) ∧ Below w1.heap.size w1 wr) (fun i _ => c.words.length - (intOf i).toNat)
      case atStart => exact ⟨0, Nat.zero_le _, rfl, fun j hj h0 => by omega, Below.refl _ _⟩
      case round =>
        obtain ⟨k, hk, rfl, hall, hB⟩ := hrel
        have HA := Lib.hid hall
        have HB := Lib.hid hB
        have hk0 : (0 : Int) ≤ (k : Int) := by omega
        obtain ⟨g0, g1, g2, g3⟩ := HB4.out
        have c1 := cell_later hB g1
        have c2 := cell_later hB g2
        have c3 := cell_later hB g3
        have hbw := cell_lt c3
        clear hall g0 g1 g2 g3
        by_cases hlt : k < c.words.length
        · have hk1 : (k : Int) < (c.words.length : Int) := by omega
          obtain ⟨b, o, rfl, q0, hz0⟩ := str_at (HW.out.below hB) hlt
          have hbl := cell_lt q0
          have HLT := Lib.hid hlt
          clear hB
          have TK1 : True := trivial
          cases hnm : nameB c.words[k] with
          | true =>
            have HN := Lib.hid (show ∀ j (hj : j < c.words.length), j < k + 1 → nameB c.words[j] = true from fun j hj hjk => by
              rcases Nat.lt_or_ge j k with h | h
              · exact HA.out j hj h
              · obtain rfl : j = k := by omega
                exact hnm)
            have HNM := Lib.hid hnm
            clear hnm
            generalize c.words[k] = sk at *
            gi_wp2_with (clear TK1; refine ⟨trivial, ?_⟩; gi_at_call 61; refine (callsIn_wide.2 (rname_any sk _ hz0)).mono ?_; rintro e w2 ⟨rfl, hb⟩; rw [HNM.out]; have HB2 := Lib.hid (HB.out.trans (hb.mono HB.out.size)); clear hb)
            go_roundw
            case rel => exact ⟨k + 1, HLT.out, by go_num, HN.out, HB2.out⟩
            case measure => have := HLT.out; simp [intOf]; omega
          | false =>
            have HV := Lib.hid (show wordsErr c = 19 by
              unfold wordsErr
              rw [if_neg HL64.out, if_pos]
              rw [List.any_eq_true]
              exact ⟨c.words[k], List.getElem_mem hlt, by rw [hnm]; rfl⟩)
            have HNM := Lib.hid hnm
            clear hnm
            generalize c.words[k] = sk at *
            gi_wp2_with (clear TK1; refine ⟨trivial, ?_⟩; gi_at_call 61; refine (callsIn_wide.2 (rname_any sk _ hz0)).mono ?_; rintro e w2 ⟨rfl, hb⟩; rw [HNM.out]; have HB2 := Lib.hid (HB.out.trans (hb.mono HB.out.size)); clear hb)
            refine bodyPost_ret (results_tmp rfl _ _ _) rfl ?_
            exact ⟨by rw [HE.out, HV.out]; rfl, HB0.out.trans (HB2.out.mono HB0.out.size)⟩
        · have hk1 : ¬ (k : Int) < (c.words.length : Int) := by omega
          obtain rfl : k = c.words.length := by omega
          have HWB := Lib.hid (words_all fun j hj => HA.out j hj hj)
          clear hlt hB
          have TK2 : True := trivial
          cases hd : dupS c.words with
          | true =>
            have HV := Lib.hid (show wordsErr c = 8 by unfold wordsErr; rw [if_neg HL64.out, if_neg (by rw [HWB.out]; simp), if_pos hd])
            have HD := Lib.hid hd
            clear hd
            gi_wp2_with (clear TK2; refine ⟨trivial, ?_⟩; gi_at_call 77; refine (callsIn_wide.2 (twice_any C _ c.words _ (HW.out.below HB.out) (by omega))).mono ?_; rintro e w2 ⟨rfl, hb⟩; rw [HD.out]; have HB2 := Lib.hid (HB.out.trans (hb.mono HB.out.size)); clear hb)
            refine bodyPost_ret (results_tmp rfl _ _ _) rfl ?_
            exact ⟨by rw [HE.out, HV.out]; rfl, HB0.out.trans (HB2.out.mono HB0.out.size)⟩
          | false =>
            have hv : wordsErr c = if c.lo ≠ 0 ∨ c.hi ≠ (c.words.length : Int) - 1 then 2 else 0 := by unfold wordsErr; rw [if_neg HL64.out, if_neg (by rw [HWB.out]; simp), if_neg (by rw [hd]; simp)]
            have HD := Lib.hid hd
            have hcs : (wordsErr c = 2 ∧ (c.lo != 0) = true) ∨ (wordsErr c = 2 ∧ (c.lo != 0) = false ∧ (c.hi != (c.words.length : Int) - 1) = true) ∨ (wordsErr c = 0 ∧ (c.lo != 0) = false ∧ (c.hi != (c.words.length : Int) - 1) = false) := by
              rw [hv]
              by_cases e1 : c.lo = 0
              · by_cases e2 : c.hi = (c.words.length : Int) - 1
                · exact .inr (.inr ⟨by rw [if_neg (by simp [e1, e2])], by simpa using e1, by simpa using e2⟩)
                · exact .inr (.inl ⟨by rw [if_pos (.inr e2)], by simpa using e1, by simpa using e2⟩)
              · exact .inl ⟨by rw [if_pos (.inl e1)], by simpa using e1⟩
            have hl0 : (0 : Int) ≤ (c.words.length : Int) := by omega
            clear hv hd
            have HC1 := Lib.hid c1
            have HC2 := Lib.hid c2
            rcases hcs with ⟨hv, k1⟩ | ⟨hv, k1, k2⟩ | ⟨hv, k1, k2⟩
            all_goals
              have HV := Lib.hid hv
              clear hv
              gi_wp2_with (clear TK2; refine ⟨trivial, ?_⟩; gi_at_call 77; refine (callsIn_wide.2 (twice_any C _ c.words _ (HW.out.below HB.out) (by omega))).mono ?_; rintro e w2 ⟨rfl, hb⟩; rw [HD.out]; have HB2 := Lib.hid (HB.out.trans (hb.mono HB.out.size)); have d1 := cell_later hb HC1.out; have d2 := cell_later hb HC2.out; have hbw2 := cell_lt d1; clear hb)
              refine bodyPost_ret (results_tmp rfl _ _ _) rfl ?_
              exact ⟨by rw [HE.out, HV.out]; rfl, HB0.out.trans (HB2.out.mono HB0.out.size)⟩
  · have hv : valsErr c = if c.lo < -1000000 ∨ 1000000 < c.hi ∨ c.hi < c.lo then 2 else 0 := by unfold valsErr; rw [if_neg hwl]
    have hwz : (c.words.length : Int) = 0 := by omega
    have hwb : ((c.words.length : Int) == 0) = true := beq_iff_eq.2 (by omega)
    have hcs : (valsErr c = 2 ∧ c.lo < -1000000) ∨ (valsErr c = 2 ∧ ¬ c.lo < -1000000 ∧ 1000000 < c.hi) ∨ (valsErr c = 2 ∧ ¬ c.lo < -1000000 ∧ ¬ 1000000 < c.hi ∧ c.hi < c.lo) ∨ (valsErr c = 0 ∧ ¬ c.lo < -1000000 ∧ ¬ 1000000 < c.hi ∧ ¬ c.hi < c.lo) := by
      rw [hv]
      by_cases e1 : c.lo < -1000000
      · exact .inl ⟨by rw [if_pos (.inl e1)], e1⟩
      · by_cases e2 : 1000000 < c.hi
        · exact .inr (.inl ⟨by rw [if_pos (.inr (.inl e2))], e1, e2⟩)
        · by_cases e3 : c.hi < c.lo
          · exact .inr (.inr (.inl ⟨by rw [if_pos (.inr (.inr e3))], e1, e2, e3⟩))
          · exact .inr (.inr (.inr ⟨by rw [if_neg (by omega)], e1, e2, e3⟩))
    clear hv
    rcases hcs with ⟨hv, c1⟩ | ⟨hv, c1, c2⟩ | ⟨hv, c1, c2, c3⟩ | ⟨hv, c1, c2, c3⟩
    all_goals
      have HV := Lib.hid hv
      clear hv
      gi_wp2
      refine bodyPost_ret (results_tmp rfl _ _ _) rfl ?_
      exact ⟨by rw [HV.out]; rfl, HB0.out⟩
theorem okCol_eq (c : Col) : okCol c = (nameB c.name && (valsErr c == 0)) := by
  unfold okCol
  cases h : nameB c.name with
  | true => rw [colErr_vals h (by simp)]; rfl
  | false => simp [colErr, h]
set_option maxHeartbeats 2000000 in
theorem rvalid_any (C : TypeId → Nat → Prop) (v : Value) (c : Col) (w : World) (h : ColVal C w v c) :
    Calls Tryz.prog 39 #[v] w fun e w' => e = .returned (.bool (okCol c)) ∧ Below w.heap.size w w' := by
  have HV := Lib.hid h
  obtain ⟨u, rfl, hw, hs⟩ := h
  obtain ⟨A, cc, rfl, hle, hmx⟩ := hw.slice
  have HB0 := Lib.hid (below_alloc w (.cells #[.string c.name, .int .i64 c.lo, .int .i64 c.hi, .slice A c.words.length cc] 25))
  have HB4 := Lib.hid (box4 w (.string c.name) (.int .i64 c.lo) (.int .i64 c.hi) (.slice A c.words.length cc) 25)
  have HZ := Lib.hid hs.1
  have HE := Lib.hid (okCol_eq c)
  clear hw hs
  refine (callsIn_wide (n := 6)).1 ?_
  have h1 : 1 ≤ 6 := by omega
  refine callsIn_of_wp Tryz.func39 rfl trivial ?_ rfl
  simp only [Tryz.ntmps39, List.size_toArray, List.length_cons, List.length_nil, Nat.reduceAdd, Nat.reduceSub, Array.replicate_succ, Array.replicate_zero, List.push_toArray, List.append_toArray, List.nil_append, List.cons_append]
  have TK1 : True := trivial
  cases hnm : nameB c.name with
  | false =>
    have HNM := Lib.hid hnm
    clear hnm
    gi_wp2_with (clear TK1; refine ⟨trivial, ?_⟩; gi_at_call 61; refine (callsIn_wide.2 (rname_any c.name _ HZ.out)).mono ?_; rintro e w2 ⟨rfl, hb⟩; rw [HNM.out]; have HB2 := Lib.hid (HB0.out.trans (hb.mono HB0.out.size)); clear hb)
    refine ⟨trivial, ?_⟩
    gi_wp2
    refine bodyPost_ret (results_tmp rfl _ _ _) rfl ?_
    exact ⟨by rw [HE.out, HNM.out]; rfl, HB2.out⟩
  | true =>
    have HNM := Lib.hid hnm
    clear hnm
    have TK2 : True := trivial
    gi_wp2_with (clear TK1; refine ⟨trivial, ?_⟩; gi_at_call 61; refine (callsIn_wide.2 (rname_any c.name _ HZ.out)).mono ?_; rintro e w2 ⟨rfl, hb⟩; rw [HNM.out]; have HB2 := Lib.hid (HB0.out.trans (hb.mono HB0.out.size)); obtain ⟨g0, g1, g2, g3⟩ := HB4.out; have d0 := cell_later hb g0; have d1 := cell_later hb g1; have d2 := cell_later hb g2; have d3 := cell_later hb g3; have hbl := cell_lt d0; clear hb g0 g1 g2 g3)
    gi_wp2_with (clear TK2; refine ⟨trivial, ?_⟩; gi_at_call 62; refine (callsIn_wide.2 (rcolumn_any C _ c _ (HV.out.below HB2.out))).mono ?_; rintro e w3 ⟨rfl, hb⟩; have HB3 := Lib.hid (HB2.out.trans (hb.mono HB2.out.size)); clear hb)
    refine bodyPost_ret (results_tmp rfl _ _ _) rfl ?_
    exact ⟨by rw [HE.out, HNM.out]; simp, HB3.out⟩
set_option maxHeartbeats 2000000 in
theorem rclamp_any (C : TypeId → Nat → Prop) (v : Value) (c : Col) (x : Int) (w : World) (h : ColVal C w v c) :
    Calls Tryz.prog 10 #[v, .int .i64 x] w fun e w' => e = .returned (.int .i64 (clampC c x)) ∧ Below w.heap.size w w' := by
  have HV := Lib.hid h
  obtain ⟨u, rfl, hw, hs⟩ := h
  obtain ⟨A, cc, rfl, hle, hmx⟩ := hw.slice
  have HB0 := Lib.hid (below_alloc w (.cells #[.string c.name, .int .i64 c.lo, .int .i64 c.hi, .slice A c.words.length cc] 25))
  have HB4 := Lib.hid (box4 w (.string c.name) (.int .i64 c.lo) (.int .i64 c.hi) (.slice A c.words.length cc) 25)
  clear hw hs
  refine (callsIn_wide (n := 6)).1 ?_
  have h1 : 1 ≤ 6 := by omega
  refine callsIn_of_wp Tryz.func10 rfl trivial ?_ rfl
  simp only [Tryz.ntmps10, List.size_toArray, List.length_cons, List.length_nil, Nat.reduceAdd, Nat.reduceSub, Array.replicate_succ, Array.replicate_zero, List.push_toArray, List.append_toArray, List.nil_append, List.cons_append]
  have TK1 : True := trivial
  cases hok : okCol c with
  | false =>
    have HK := Lib.hid hok
    have HE := Lib.hid (show clampC c x = 0 by unfold clampC; rw [if_neg (by rw [hok]; simp)])
    clear hok
    gi_wp2_with (clear TK1; refine ⟨trivial, ?_⟩; gi_at_call 39; refine (callsIn_wide.2 (rvalid_any C _ c _ (HV.out.below HB0.out))).mono ?_; rintro e w2 ⟨rfl, hb⟩; rw [HK.out]; have HB2 := Lib.hid (HB0.out.trans (hb.mono HB0.out.size)); clear hb)
    refine bodyPost_ret (results_tmp rfl _ _ _) rfl ?_
    exact ⟨by rw [HE.out]; rfl, HB2.out⟩
  | true =>
    have HK := Lib.hid hok
    have HE := Lib.hid (show clampC c x = max c.lo (min c.hi x) by unfold clampC; rw [if_pos hok])
    have HMM := Lib.hid (Int.min_comm x c.hi)
    clear hok
    gi_wp2_with (clear TK1; refine ⟨trivial, ?_⟩; gi_at_call 39; refine (callsIn_wide.2 (rvalid_any C _ c _ (HV.out.below HB0.out))).mono ?_; rintro e w2 ⟨rfl, hb⟩; rw [HK.out]; have HB2 := Lib.hid (HB0.out.trans (hb.mono HB0.out.size)); obtain ⟨g0, g1, g2, g3⟩ := HB4.out; have d1 := cell_later hb g1; have d2 := cell_later hb g2; have hbl := cell_lt d1; clear hb g0 g1 g2 g3)
    refine bodyPost_ret (results_tmp rfl _ _ _) rfl ?_
    refine ⟨?_, HB2.out⟩
    rw [HE.out, ← HMM.out]
    rfl
end Go.Proofs.YtlocafmglficnaaGreatDoor
