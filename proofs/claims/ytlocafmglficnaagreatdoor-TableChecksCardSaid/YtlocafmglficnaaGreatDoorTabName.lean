/- Names: which strings are names. -/
import Derived.Test.YtlocafmglficnaaGreatDoorTabMem
import Derived.Sort.Walk0
namespace Go.Proofs.YtlocafmglficnaaGreatDoor
open Go.RowKit

/-- The reserved words. -/
def resB : List (List UInt8) := [[97, 98, 111, 118, 101], [97, 110, 100], [98, 97, 116, 99, 104], [98, 101, 116, 119, 101, 101, 110], [98, 105, 116, 115], [98, 121], [99, 111, 110, 115, 105, 115, 116, 101, 110, 116], [99, 111, 117, 110, 116], [101, 108, 115, 101], [102, 97, 99, 116, 111, 114], [102, 114, 111, 109], [104, 105, 115, 116, 111, 103, 114, 97, 109], [105, 100, 101, 110, 116, 105, 116, 121], [105, 102], [106, 111, 105, 110], [107, 101, 101, 112], [108, 97, 116, 101], [108, 105, 109, 105, 116], [109, 111, 100, 101], [110, 111, 110, 101], [110, 111, 116], [111, 102], [111, 110], [111, 114], [112, 101, 97, 107], [112, 114, 101, 102, 105, 120], [113, 117, 97, 110, 116, 105, 108, 101], [114, 117, 110, 110, 105, 110, 103], [115, 117, 109], [116, 104, 101, 110], [116, 111, 116, 97, 108], [116, 114, 101, 101], [117, 115, 105, 110, 103], [119, 104, 101, 114, 101], [119, 105, 116, 104]]
def resS (i : Nat) : ByteArray := ⟨(resB[i]?.getD []).toArray⟩
/-- The list of reserved words lies in the program's variable. -/
def Res (w : World) : Prop := ∀ i, i < 35 → w.cell? ⟨0, i, none⟩ = some (.string (resS i))
theorem Res.later {w w' : World} (h : Res w) (hb : Below w.heap.size w w') : Res w' := fun i hi => by
  have hlt := World.block_lt_of_cell? w _ (h i hi)
  exact (hb.cell (p := ⟨0, i, none⟩) hlt).trans (h i hi)

theorem nan1 (s : ByteArray) (w : World) : Calls Tryz.prog 122 #[.string s] w fun e w' => e = .returned (.bool false) ∧ w = w' := by
  have h1 : (!(s.toList == s.toList)) = false := by simp
  go_enter Tryz.func122, Tryz.ntmps122
  go_wp2
  go_ret
  exact ⟨rfl, rfl⟩
theorem nan2 (s : ByteArray) (w : World) : Calls Tryz.prog 114 #[.string s] w fun e w' => e = .returned (.bool false) ∧ w = w' := by
  have h1 : (!(s.toList == s.toList)) = false := by simp
  go_enter Tryz.func114, Tryz.ntmps114
  go_wp2
  go_ret
  exact ⟨rfl, rfl⟩
/-- Strings in order. -/
def ltS (a b : ByteArray) : Bool := decide (a.data.toList < b.data.toList)
theorem less_any (a b : ByteArray) (w : World) : Calls Tryz.prog 113 #[.string a, .string b] w fun e w' => e = .returned (.bool (ltS a b)) ∧ w = w' := by
  have hl : Op.bytesLess a.toList b.toList = ltS a b := by rw [Proofs.bytesLess_eq, Lib.toList_data, Lib.toList_data]; rfl
  go_enter Tryz.func113, Tryz.ntmps113
  go_wp2_with (go_at_call 122; refine (nan1 _ _).mono ?_; rintro e w' ⟨rfl, rfl⟩)
  go_ret
  exact ⟨rfl, rfl⟩

/-- The binary search in a sorted list of strings: is the string in it? -/
def inN (n : Nat) (f : Nat → ByteArray) (s : ByteArray) : Bool := (List.range n).any fun k => decide (f k = s)
theorem ltS_trans {a b c : ByteArray} (h1 : ltS a b = true) (h2 : ltS b c = true) : ltS a c = true := by
  simp only [ltS, decide_eq_true_eq] at *
  exact List.lt_trans h1 h2
theorem ltS_irrefl (a : ByteArray) : ltS a a = false := by simp [ltS]
theorem inN_at {n a : Nat} {f : Nat → ByteArray} {s : ByteArray} (h1 : ∀ k, k < a → ltS (f k) s = true) (h2 : ∀ k, a ≤ k → k < n → ltS (f k) s = false) (hs : ∀ i j, i < j → j < n → ltS (f i) (f j) = true) : inN n f s = if a < n then decide (f a = s) else false := by
  have hne : ∀ k, k < n → k ≠ a → f k ≠ s := by
    intro k hk hka e
    rcases Nat.lt_or_ge k a with h | h
    · have := h1 k h
      rw [e, ltS_irrefl] at this; cases this
    · have h3 := h2 a (Nat.le_refl _) (by omega)
      have h4 := hs a k (by omega) hk
      rw [← e, h4] at h3; cases h3
  by_cases ha : a < n
  · rw [if_pos ha]
    by_cases he : f a = s
    · simp only [inN, he, decide_true]
      exact List.any_eq_true.2 ⟨a, List.mem_range.2 ha, by simpa using he⟩
    · simp only [inN, he, decide_false]
      exact List.any_eq_false.2 fun k hk => by
        by_cases hka : k = a
        · subst hka; simpa using he
        · simpa using hne k (List.mem_range.1 hk) hka
  · rw [if_neg ha]
    exact List.any_eq_false.2 fun k hk => by simpa using hne k (List.mem_range.1 hk) (by have := List.mem_range.1 hk; omega)
set_option maxRecDepth 100000 in
set_option maxHeartbeats 1000000 in
theorem search_any (b o n c : Nat) (f : Nat → ByteArray) (s : ByteArray) (w : World) (hn : n ≤ 1000000) (hc : ∀ i, i < n → w.cell? ⟨b, o + i, none⟩ = some (.string (f i))) (hs : ∀ i j, i < j → j < n → ltS (f i) (f j) = true) :
    Calls Tryz.prog 97 #[.slice (some ⟨b, o, none⟩) n c, .string s] w fun e w' => (∃ i : Int, e = .returned (.tuple #[.int .i64 i, .bool (inN n f s)])) ∧ w = w' := by
  have HC := Lib.hid hc
  have HS := Lib.hid hs
  clear hc hs
  go_enter Tryz.func97, Tryz.ntmps97
  go_wp2
  go_loop [7, 8] (fun i j => ∃ a z : Nat, a ≤ z ∧ z ≤ n ∧ i = .int .i64 a ∧ j = .int .i64 z ∧ (∀ k, k < a → ltS (f k) s = true) ∧ (∀ k, z ≤ k → k < n → ltS (f k) s = false)) (fun i j => (intOf j - intOf i).toNat)
  case atStart => exact ⟨0, n, Nat.zero_le _, Nat.le_refl _, rfl, rfl, fun k h => by omega, fun k h1 h2 => by omega⟩
  case round =>
    obtain ⟨a, z, haz, hzn, rfl, rfl, h1, h2⟩ := hrel
    have H1 := Lib.hid h1
    have H2 := Lib.hid h2
    clear h1 h2
    by_cases hlt : a < z
    · have hm : (a + z) / 2 < n := by omega
      have hma : a ≤ (a + z) / 2 := by omega
      have hmz : (a + z) / 2 < z := by omega
      have cm := HC.out _ hm
      have hsh : Op.shift .shr .u64 ((a : Int) + (z : Int)) .u64 1 = pure (.int .u64 (((a + z) / 2 : Nat) : Int)) := by
        have := shift_shr .u64 .u64 ((a : Int) + (z : Int)) 1 (by decide) (by decide)
        rw [this]
        congr 2
      generalize hmd : (a + z) / 2 = m at *
      have HMD := Lib.hid hmd
      clear hmd
      have hm0 : (0 : Int) ≤ (m : Int) := by omega
      have hm1 : (m : Int) < (n : Int) := by omega
      by_cases hless : ltS (f m) s = true
      · go_wp2_with (go_at_call 113; refine (less_any _ _ _).mono ?_; rintro e w' ⟨rfl, rfl⟩)
        go_round
        case rel => exact ⟨m + 1, z, by omega, hzn, by go_num, rfl, fun k hk => by
          rcases Nat.lt_or_ge k m with h | h
          · have := HS.out k m h (by omega)
            exact ltS_trans this hless
          · obtain rfl : k = m := by omega
            exact hless, H2.out⟩
        case measure => simp [intOf]; omega
      · have hless' : ltS (f m) s = false := by simpa using hless
        clear hless
        go_wp2_with (go_at_call 113; refine (less_any _ _ _).mono ?_; rintro e w' ⟨rfl, rfl⟩)
        go_round
        case rel => exact ⟨a, m, hma, by omega, rfl, rfl, H1.out, fun k hk hkn => by
          rcases Nat.lt_or_ge m k with h | h
          · have := HS.out m k h hkn
            cases hc : ltS (f k) s with
            | false => rfl
            | true => rw [ltS_trans this hc] at hless'; cases hless'
          · obtain rfl : k = m := by omega
            exact hless'⟩
        case measure => simp [intOf]; omega
    · obtain rfl : a = z := by omega
      clear hlt
      have hin := inN_at H1.out H2.out HS.out
      by_cases han : a < n
      · have ca := HC.out _ han
        have hi0 : (0 : Int) ≤ (a : Int) := by omega
        have hi1 : (a : Int) < (n : Int) := by omega
        by_cases he : f a = s
        · have hv : inN n f s = true := by rw [hin, if_pos han]; simpa using he
          rw [he] at ca
          have HV := Lib.hid hv
          clear hin he hv
          have hss : (s.toList == s.toList) = true := by simp
          go_wp2_with (go_at_call 114; refine (nan2 _ _).mono ?_; rintro e w' ⟨rfl, rfl⟩)
          go_ret2
          exact ⟨⟨a, by rw [HV.out]; rfl⟩, rfl⟩
        · have hv : inN n f s = false := by rw [hin, if_pos han]; simpa using he
          have hss : ((f a).toList == s.toList) = false := by simpa [Lib.toList_data] using fun e => he (ByteArray.ext (Array.toList_inj.1 e))
          have HV := Lib.hid hv
          clear hin he hv
          generalize f a = fa at *
          go_wp2_with (go_at_call 114; refine (nan2 _ _).mono ?_; rintro e w' ⟨rfl, rfl⟩)
          go_ret2
          exact ⟨⟨a, by rw [HV.out]; rfl⟩, rfl⟩
      · have hv : inN n f s = false := by rw [hin, if_neg han]
        have HV := Lib.hid hv
        clear hin hv
        go_wp2
        go_ret2
        exact ⟨⟨a, by rw [HV.out]; rfl⟩, rfl⟩

/-- A sign of a name. -/
def ChOk (x : Int) : Prop := (97 ≤ x ∧ x ≤ 122) ∨ (48 ≤ x ∧ x ≤ 57) ∨ x = 95
instance (x : Int) : Decidable (ChOk x) := by unfold ChOk; infer_instance
def headOk (s : ByteArray) : Bool := match s.data.toList.head? with | some c => decide ((97 : Int) ≤ c.toNat ∧ (c.toNat : Int) ≤ 122) | none => false
/-- Is it a name? -/
def nameB (s : ByteArray) : Bool := decide (s.size ≤ 20) && headOk s && s.data.toList.all (fun c => decide (ChOk c.toNat)) && !inN 35 resS s
theorem res_sorted : ∀ i j, i < j → j < 35 → ltS (resS i) (resS j) = true := by
  have h : ∀ j, j < 35 → ∀ i, i < j → ltS (resS i) (resS j) = true := by decide +kernel
  exact fun i j hij hj => h j hj i hij
theorem take_snocB (s : ByteArray) (k : Nat) (h : k < s.size) : s.data.toList.take (k + 1) = s.data.toList.take k ++ [s[k]] := by
  rw [List.take_succ_eq_append_getElem (by simpa using h)]; rfl

set_option maxRecDepth 100000 in
set_option maxHeartbeats 1000000 in
theorem name_any (s : ByteArray) (w : World) (hs : s.size ≤ maxLen) (hr : Res w) : Calls Tryz.prog 86 #[.string s] w fun e w' => e = .returned (.bool (nameB s)) ∧ w = w' := by
  unfold maxLen at hs
  have HR := Lib.hid hr
  clear hr
  by_cases h1 : s.size < 1
  · have hv : nameB s = false := by
      have : s.data.toList = [] := List.eq_nil_of_length_eq_zero (by simpa using (show s.data.size = 0 by have : s.size = s.data.size := rfl; omega))
      simp [nameB, headOk, this]
    have HV := Lib.hid hv
    clear hv
    have h1' : (s.size : Int) < 1 := by omega
    go_enter Tryz.func86, Tryz.ntmps86
    go_wp2
    go_ret
    exact ⟨by rw [HV.out]; rfl, rfl⟩
  by_cases h2 : 20 < s.size
  · have hv : nameB s = false := by simp [nameB, show ¬ s.size ≤ 20 by omega]
    have HV := Lib.hid hv
    clear hv
    have h1' : ¬ (s.size : Int) < 1 := by omega
    have h2' : (20 : Int) < (s.size : Int) := by omega
    go_enter Tryz.func86, Tryz.ntmps86
    go_wp2
    go_ret
    exact ⟨by rw [HV.out]; rfl, rfl⟩
  have h1' : ¬ (s.size : Int) < 1 := by omega
  have h2' : ¬ (20 : Int) < (s.size : Int) := by omega
  have h0 : 0 < s.size := by omega
  have hhd : headOk s = decide ((97 : Int) ≤ s[0].toNat ∧ (s[0].toNat : Int) ≤ 122) := by
    unfold headOk
    have : s.data.toList.head? = some s[0] := by
      rw [List.head?_eq_getElem?, List.getElem?_eq_getElem (by simpa using h0)]; rfl
    rw [this]
  by_cases h3 : (97 : Int) ≤ s[0].toNat ∧ (s[0].toNat : Int) ≤ 122
  · obtain ⟨h3a, h3b⟩ := h3
    have hhd' : headOk s = true := by rw [hhd]; simp; omega
    have HH := Lib.hid hhd'
    clear hhd hhd'
    go_enter Tryz.func86, Tryz.ntmps86
    go_wp2
    go_loop [27] (fun i => ∃ k : Nat, k ≤ s.size ∧ i = .int .i64 k ∧ (s.data.toList.take k).all (fun c => decide (ChOk c.toNat)) = true) (fun i => s.size - (intOf i).toNat)
    case atStart => exact ⟨0, Nat.zero_le _, rfl, by simp⟩
    case round =>
      obtain ⟨k, hk, rfl, hall⟩ := hrel
      have HALL := Lib.hid hall
      clear hall
      by_cases hlt : k < s.size
      · have hlt' : (k : Int) < (s.size : Int) := by omega
        have hk0 : (0 : Int) ≤ (k : Int) := by omega
        have hsn := take_snocB s k hlt
        by_cases hok : ChOk (s[k].toNat : Int)
        · have HS := Lib.hid (show (s.data.toList.take (k + 1)).all (fun c => decide (ChOk c.toNat)) = true by rw [hsn, List.all_append, HALL.out]; simpa using hok)
          clear hsn
          unfold ChOk at hok
          go_wp2
          all_goals first
            | (refine ⟨⟨k + 1, ?_, ?_, HS.out⟩, ?_⟩; (· omega); (· go_num); (· simp [intOf]; omega))
            | (exfalso; (try simp only [bne_iff_ne, ne_eq] at *); omega)
        · have HV := Lib.hid (show nameB s = false by
            have : s.data.toList.all (fun c => decide (ChOk c.toNat)) = false := by
              rw [List.all_eq_false]
              exact ⟨s[k], List.getElem_mem (l := s.data.toList) (n := k) (by simpa using hlt), by simpa using hok⟩
            simp [nameB, this])
          clear hsn
          unfold ChOk at hok
          go_wp2
          all_goals first
            | (exfalso; (try simp only [bne_iff_ne, ne_eq, bne_eq_false_iff_eq] at *); omega)
            | (go_ret; exact ⟨by rw [HV.out]; rfl, rfl⟩)
      · obtain rfl : k = s.size := by omega
        have HV := Lib.hid (show nameB s = !inN 35 resS s by
          have h1 := HALL.out
          rw [List.take_of_length_le (by simp)] at h1
          unfold nameB
          rw [h1, HH.out, show decide (s.size ≤ 20) = true by simp; omega]
          simp)
        clear hlt
        go_wp2_with (go_at_call 97; refine (search_any 0 0 35 35 resS s w (by omega) (fun i hi => by rw [Nat.zero_add]; exact HR.out i hi) res_sorted).mono ?_; rintro e w' ⟨⟨i, rfl⟩, rfl⟩)
        go_ret
        exact ⟨by rw [HV.out]; rfl, rfl⟩
  · have hv : nameB s = false := by
      have : headOk s = false := by rw [hhd]; simpa using h3
      simp [nameB, this]
    have HV := Lib.hid hv
    clear hv hhd
    go_enter Tryz.func86, Tryz.ntmps86
    go_wp2
    all_goals
      go_ret
      exact ⟨by rw [HV.out]; rfl, rfl⟩
end Go.Proofs.YtlocafmglficnaaGreatDoor
