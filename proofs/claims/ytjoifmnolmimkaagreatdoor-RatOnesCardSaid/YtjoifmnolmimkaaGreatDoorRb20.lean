/- The reference's Make (printed by mkrmake.py). The statements' light and same. -/
import Derived.Test.YtjoifmnolmimkaaGreatDoorRb18
import Derived.Test.YtjoifmnolmimkaaGreatDoorRb11
import Derived.Test.YtjoifmnolmimkaaGreatDoorRb13
namespace Go.Proofs.YtjoifmnolmimkaaGreatDoor
open Go.RowKit Go.Shelf
open Lim

set_option maxRecDepth 100000 in
set_option maxHeartbeats 2000000 in
theorem rmake1 (a b n2 : ByteArray) (m ok : Bool) (w : World) (ha : a.size ≤ 270000) (hb : b.size ≤ 270000) (hn : n2.size ≤ 270000) (hi : intP a.data.toList = (m, n2.data.toList)) (hok : intOk a.data.toList = ok) (h0 : ok = false) :
    Calls Tryz.prog 45 #[.string a, .string b] w fun e w' => e = .returned (resN ([], 3)) ∧ Below w.heap.size w w' := by
  have HI := Lib.hid (And.intro hi hok)
  subst h0
  clear hi hok
  go_enter Tryz.func45, Tryz.ntmps45
  go_wp2_with (first
    | (go_at_call 100; refine (rinteger_any a _ (by omega)).mono ?_; rintro e w2 ⟨rfl, hw2⟩; subst hw2; rw [HI.out.1, HI.out.2]; dsimp only; rw [beta_ba]; have HB2 := Lib.hid (Below.refl w2.heap.size w2)))
  refine bodyPost_ret (results_tmp2 rfl _ _ _) rfl ?_
  exact ⟨rfl, HB2.out⟩

set_option maxRecDepth 100000 in
set_option maxHeartbeats 2000000 in
theorem rmake2 (a b n2 : ByteArray) (m ok : Bool) (w : World) (ha : a.size ≤ 270000) (hb : b.size ≤ 270000) (hn : n2.size ≤ 270000) (hi : intP a.data.toList = (m, n2.data.toList)) (hok : intOk a.data.toList = ok) (h0 : ok = true) (h1 : 4000 < n2.size) :
    Calls Tryz.prog 45 #[.string a, .string b] w fun e w' => e = .returned (resN ([], 5)) ∧ Below w.heap.size w w' := by
  have HI := Lib.hid (And.intro hi hok)
  have hl1 : decide ((4000 : Int) < (n2.size : Int)) = true := decide_eq_true (by omega)
  clear h1
  subst h0
  clear hi hok
  go_enter Tryz.func45, Tryz.ntmps45
  go_wp2_with (first
    | (go_at_call 100; refine (rinteger_any a _ (by omega)).mono ?_; rintro e w2 ⟨rfl, hw2⟩; subst hw2; rw [HI.out.1, HI.out.2]; dsimp only; rw [beta_ba]; have HB2 := Lib.hid (Below.refl w2.heap.size w2)))
  refine bodyPost_ret (results_tmp2 rfl _ _ _) rfl ?_
  exact ⟨rfl, HB2.out⟩

set_option maxRecDepth 100000 in
set_option maxHeartbeats 2000000 in
theorem rmake3 (a b n2 : ByteArray) (m ok : Bool) (w : World) (ha : a.size ≤ 270000) (hb : b.size ≤ 270000) (hn : n2.size ≤ 270000) (hi : intP a.data.toList = (m, n2.data.toList)) (hok : intOk a.data.toList = ok) (h0 : ok = true) (h1 : n2.size ≤ 4000) (h2 : errN b.data.toList ≠ 0) :
    Calls Tryz.prog 45 #[.string a, .string b] w fun e w' => e = .returned (resN ([], errN b.data.toList)) ∧ Below w.heap.size w w' := by
  have HI := Lib.hid (And.intro hi hok)
  have hl1 : decide ((4000 : Int) < (n2.size : Int)) = false := decide_eq_false (by omega)
  have hne : ((errN b.data.toList : Int) == 0) = false := by rw [beq_eq_false_iff_ne]; omega
  clear h1 h2
  subst h0
  clear hi hok
  go_enter Tryz.func45, Tryz.ntmps45
  go_wp2_with (first
    | (go_at_call 100; refine (rinteger_any a _ (by omega)).mono ?_; rintro e w2 ⟨rfl, hw2⟩; subst hw2; rw [HI.out.1, HI.out.2]; dsimp only; rw [beta_ba]; have HB2 := Lib.hid (Below.refl w2.heap.size w2))
    | (go_at_call 24; refine (rcheck_any b _ (by omega)).mono ?_; rintro e w3 ⟨rfl, hw3⟩; subst hw3; have HB3 := HB2))
  refine bodyPost_ret (results_tmp2 rfl _ _ _) rfl ?_
  exact ⟨rfl, HB3.out⟩

set_option maxRecDepth 100000 in
set_option maxHeartbeats 2000000 in
theorem rmake4 (a b n2 : ByteArray) (m ok : Bool) (w : World) (ha : a.size ≤ 270000) (hb : b.size ≤ 270000) (hn : n2.size ≤ 270000) (hi : intP a.data.toList = (m, n2.data.toList)) (hok : intOk a.data.toList = ok) (h0 : ok = true) (h1 : n2.size ≤ 4000) (h2 : errN b.data.toList = 0) (h3 : (b.toList == [48]) = true) :
    Calls Tryz.prog 45 #[.string a, .string b] w fun e w' => e = .returned (resN ([], 6)) ∧ Below w.heap.size w w' := by
  have HI := Lib.hid (And.intro hi hok)
  have hl1 : decide ((4000 : Int) < (n2.size : Int)) = false := decide_eq_false (by omega)
  have hne : ((errN b.data.toList : Int) == 0) = true := by rw [h2]; rfl
  clear h1 h2
  subst h0
  clear hi hok
  go_enter Tryz.func45, Tryz.ntmps45
  go_wp2_with (first
    | (go_at_call 100; refine (rinteger_any a _ (by omega)).mono ?_; rintro e w2 ⟨rfl, hw2⟩; subst hw2; rw [HI.out.1, HI.out.2]; dsimp only; rw [beta_ba]; have HB2 := Lib.hid (Below.refl w2.heap.size w2))
    | (go_at_call 24; refine (rcheck_any b _ (by omega)).mono ?_; rintro e w3 ⟨rfl, hw3⟩; subst hw3; have HB3 := HB2))
  refine bodyPost_ret (results_tmp2 rfl _ _ _) rfl ?_
  exact ⟨rfl, HB3.out⟩

set_option maxRecDepth 100000 in
set_option maxHeartbeats 2000000 in
theorem rmake5 (a b n2 : ByteArray) (m ok : Bool) (w : World) (ha : a.size ≤ 270000) (hb : b.size ≤ 270000) (hn : n2.size ≤ 270000) (hi : intP a.data.toList = (m, n2.data.toList)) (hok : intOk a.data.toList = ok) (h0 : ok = true) (h1 : n2.size ≤ 4000) (h2 : errN b.data.toList = 0) (h3 : (b.toList == [48]) = false) (hd : Dg n2.data.toList) (hd' : Dg b.data.toList) (hd0 : dv b.data.toList ≠ 0) (ln : (toL (dv n2.data.toList)).length ≤ 500) (ld : (toL (dv b.data.toList)).length ≤ 500) (lr : (toL (nm (mkQ m (dv n2.data.toList) (dv b.data.toList)))).length ≤ 500) (lr' : (toL (mkQ m (dv n2.data.toList) (dv b.data.toList)).den).length ≤ 500) :
    Calls Tryz.prog 45 #[.string a, .string b] w fun e w' => e = .returned (resN (outQ (mkQ m (dv n2.data.toList) (dv b.data.toList)))) ∧ Below w.heap.size w w' := by
  have HI := Lib.hid (And.intro hi hok)
  have hl1 : decide ((4000 : Int) < (n2.size : Int)) = false := decide_eq_false (by omega)
  have hne : ((errN b.data.toList : Int) == 0) = true := by rw [h2]; rfl
  have HG := Lib.hid (And.intro hd hd')
  have TK1 : True := trivial
  have HM := Lib.hid (fun vn vd w hn hd => rreduce_any m (dv n2.data.toList) (dv b.data.toList) vn vd w hn hd hd0 (by omega) (by omega))
  have HN := Lib.hid (fun v w hv => rwriteQ_any (mkQ m (dv n2.data.toList) (dv b.data.toList)) v w hv (by omega) (by omega))
  generalize outQ (mkQ m (dv n2.data.toList) (dv b.data.toList)) = r at HN ⊢
  unfold resN at HN
  clear h1 h2 hd hd' hd0 ln ld lr lr'
  subst h0
  clear hi hok
  go_enter Tryz.func45, Tryz.ntmps45
  go_wp2_with (first
    | (go_at_call 100; refine (rinteger_any a _ (by omega)).mono ?_; rintro e w2 ⟨rfl, hw2⟩; subst hw2; rw [HI.out.1, HI.out.2]; dsimp only; rw [beta_ba]; have HB2 := Lib.hid (Below.refl w2.heap.size w2))
    | (go_at_call 24; refine (rcheck_any b _ (by omega)).mono ?_; rintro e w3 ⟨rfl, hw3⟩; subst hw3; have HB3 := HB2)
    | (clear TK1; go_at_call 90; refine (rread_any n2 _ HG.out.1 (by omega)).mono ?_; rintro e w4 ⟨v4, rfl, hv4, hb4⟩; obtain ⟨A4, c4, rfl, _, _, _⟩ := id hv4; have HV4 := Lib.hid hv4; have HB4 := Lib.hid (HB3.out.trans (hb4.mono HB3.out.size)); clear hv4 hb4)
    | (go_at_call 90; refine (rread_any b _ HG.out.2 (by omega)).mono ?_; rintro e w5 ⟨v5, rfl, hv5, hb5⟩; obtain ⟨A5, c5, rfl, _, _, _⟩ := id hv5; have HV5 := Lib.hid hv5; have HV4' := Lib.hid (HV4.out.below hb5); have HB5 := Lib.hid (HB4.out.trans (hb5.mono HB4.out.size)); clear hv5 hb5)
    | (go_at_call 101; refine (HM.out _ _ _ HV4'.out HV5.out).mono ?_; rintro e w6 ⟨v6, rfl, hv6, hb6⟩; have HV6 := Lib.hid hv6; have HB6 := Lib.hid (HB5.out.trans (hb6.mono HB5.out.size)); clear hv6 hb6)
    | (go_at_call 95; refine (HN.out _ _ HV6.out).mono ?_; rintro e w7 ⟨rfl, hb7⟩; have HB7 := Lib.hid (HB6.out.trans (hb7.mono HB6.out.size)); clear hb7))
  refine bodyPost_ret (results_tmp2 rfl _ _ _) rfl ?_
  exact ⟨rfl, HB7.out⟩

/-- The reference's Make. -/
theorem refMake_any (a b : ByteArray) (w : World) (ha : a.size ≤ 270000) (hb : b.size ≤ 270000) :
    Calls Tryz.prog 45 #[.string a, .string b] w fun e w' => e = .returned (resN (makeQ a.data.toList b.data.toList)) ∧ Below w.heap.size w w' := by
  have hle := intP_le a.data.toList
  rw [← size_list] at hle
  have hn : (⟨(intP a.data.toList).2.toArray⟩ : ByteArray).size ≤ 270000 := by show (intP a.data.toList).2.toArray.size ≤ _; rw [List.size_toArray]; omega
  have hs : (⟨(intP a.data.toList).2.toArray⟩ : ByteArray).size = (intP a.data.toList).2.length := List.size_toArray
  unfold makeQ
  by_cases hok : intOk a.data.toList = false
  · rw [if_pos hok]
    exact rmake1 a b ⟨(intP a.data.toList).2.toArray⟩ _ _ w ha hb hn rfl hok rfl
  · rw [if_neg hok]
    have hok : intOk a.data.toList = true := by simpa using hok
    have hnf : NForm (intP a.data.toList).2 = true := by
      unfold intOk at hok
      simp only [Bool.and_eq_true] at hok
      exact hok.1
    by_cases hl : 4000 < (intP a.data.toList).2.length
    · rw [if_pos hl]
      exact rmake2 a b ⟨(intP a.data.toList).2.toArray⟩ _ _ w ha hb hn rfl hok rfl (by rw [hs]; exact hl)
    · rw [if_neg hl]
      by_cases he : errN b.data.toList ≠ 0
      · rw [if_pos he]
        exact rmake3 a b ⟨(intP a.data.toList).2.toArray⟩ _ _ w ha hb hn rfl hok rfl (by rw [hs]; omega) he
      · rw [if_neg he]
        have he : errN b.data.toList = 0 := by omega
        by_cases h0 : b.data.toList = [48]
        · rw [if_pos h0]
          exact rmake4 a b ⟨(intP a.data.toList).2.toArray⟩ _ _ w ha hb hn rfl hok rfl (by rw [hs]; omega) he (by rw [Lib.toList_data, h0]; rfl)
        · rw [if_neg h0]
          have hbf : NForm b.data.toList = true ∧ b.data.toList.length ≤ 4000 := by
            unfold errN at he
            split at he
            · split at he
              · cases he
              · exact ⟨by assumption, by omega⟩
            · cases he
          have hd0 : dv b.data.toList ≠ 0 := fun e => h0 (by rw [← NForm.eq hbf.1, e, dec_zero])
          have ln := limbs_of_form hnf (k := 500) (by omega)
          have ld := limbs_of_form hbf.1 (k := 500) (by omega)
          obtain ⟨lr, lr'⟩ := mkQ_limbs (intP a.data.toList).1 hd0 ln ld
          exact rmake5 a b ⟨(intP a.data.toList).2.toArray⟩ _ _ w ha hb hn rfl hok rfl (by rw [hs]; omega) he (by rw [Lib.toList_data, beq_eq_false_iff_ne]; exact h0) (dg_of_form hnf) (dg_of_form hbf.1) hd0 ln ld lr lr'
end Go.Proofs.YtjoifmnolmimkaaGreatDoor
namespace Go.Proofs.YtjoifmnolmimkaaGreatDoor
open Go.RowKit Go.Shelf
open Lim

set_option maxRecDepth 100000 in
theorem same_any (s : ByteArray) (k : Int) (w : World) :
    Calls Tryz.prog 42 #[.string s, .int .i64 k, .string s, .int .i64 k] w fun e w' => e = .returned (.bool true) ∧ w' = w := by
  go_enter Tryz.func42, Tryz.ntmps42
  go_wp2
  go_ret
  exact ⟨rfl, rfl⟩
def lightL (most : Nat) (ls : List ByteArray) : Bool := ls.all fun s => decide (s.size ≤ most)
theorem lightL_of {most : Nat} {ls : List ByteArray} (h : ∀ (j : Nat) (hj : j < ls.length), ls[j].size ≤ most) : lightL most ls = true := by
  unfold lightL
  rw [List.all_eq_true]
  intro s hs
  obtain ⟨j, hj, rfl⟩ := List.getElem_of_mem hs
  exact decide_eq_true (h j hj)
theorem lightL_not {most : Nat} {ls : List ByteArray} {j : Nat} (hj : j < ls.length) (h : ¬ ls[j].size ≤ most) : lightL most ls = false := by
  unfold lightL
  rw [List.all_eq_false]
  exact ⟨ls[j], List.getElem_mem hj, fun h2 => h (of_decide_eq_true h2)⟩
set_option maxRecDepth 100000 in
set_option maxHeartbeats 2000000 in
theorem light_any (ls : List ByteArray) (most b : Nat) (w : World) (hb : Blk w b 22 (ls.map Value.string).toArray) (hl : ls.length ≤ 100) (hm : most ≤ 270000) :
    Calls Tryz.prog 37 #[.int .i64 (most : Int), .slice (some ⟨b, 0, none⟩) ls.length ls.length] w fun e w' => e = .returned (.bool (lightL most ls)) ∧ w' = w := by
  have HBK := Lib.hid hb
  clear hb
  go_enter Tryz.func37, Tryz.ntmps37
  go_wp2
  go_loopw [5] (fun si wr => ∃ k : Nat, k ≤ ls.length ∧ si = .int .i64 (k : Int) ∧ (∀ (j : Nat) (hj : j < ls.length), j < k → ls[j].size ≤ most) ∧ wr = w) (fun si _ => ls.length - (intOf si).toNat)
  case atStart => exact ⟨0, Nat.zero_le _, rfl, fun j _ h => absurd h (Nat.not_lt_zero _), rfl⟩
  case round =>
    obtain ⟨k, hk, rfl, hdk, rfl⟩ := hrel
    have HDK := Lib.hid hdk
    clear hdk
    by_cases hlt : k < ls.length
    · have hlt' : (k : Int) < (ls.length : Int) := by omega
      have cx : wr.cell? ⟨b, k, none⟩ = some (.string ls[k]) := by
        have := (cellrow HBK.out k (by simpa using hlt)).1
        simpa using this
      have HNV := Lib.hid (fun h => lightL_not (most := most) hlt h)
      generalize hs0 : ls[k] = s at *
      have HS0 := Lib.hid hs0
      clear hs0
      by_cases hs : (most : Int) < (s.size : Int)
      · have HH := Lib.hid hs
        go_wp2
        go_ret
        exact ⟨by rw [HNV.out (fun h => by have := HH.out; omega)]; rfl, rfl⟩
      · have hs2 : ¬ (s.size : Int) > (most : Int) := by omega
        go_wp2
        go_roundw
        case rel =>
          refine ⟨k + 1, by omega, by go_num, fun j hj hlt2 => ?_, trivial⟩
          by_cases hjk : j = k
          · subst hjk
            rw [HS0.out]
            omega
          · exact HDK.out j hj (by omega)
        case measure => simp [intOf]; omega
    · have hlt' : ¬ (k : Int) < (ls.length : Int) := by omega
      go_wp2
      go_ret
      exact ⟨by rw [lightL_of fun j hj => HDK.out j hj (by omega)]; rfl, rfl⟩
theorem light1_any (a : ByteArray) (most : Int) (mn b : Nat) (w : World) (hm : most = (mn : Int)) (hmn : mn ≤ 270000) (hb : Blk w b 22 #[.string a]) :
    Calls Tryz.prog 37 #[.int .i64 most, .slice (some ⟨b, 0, none⟩) 1 1] w fun e w' => e = .returned (.bool (decide (a.size ≤ mn))) ∧ Below w.heap.size w w' := by
  subst hm
  have h := light_any [a] mn b w hb (by simp) hmn
  simp only [lightL, List.all_cons, List.all_nil, Bool.and_true] at h
  exact h.mono fun e w' ⟨h1, h2⟩ => ⟨h1, by rw [h2]; exact Below.refl _ _⟩
theorem light2_any (a c : ByteArray) (most : Int) (mn b : Nat) (w : World) (hm : most = (mn : Int)) (hmn : mn ≤ 270000) (hb : Blk w b 22 #[.string a, .string c]) :
    Calls Tryz.prog 37 #[.int .i64 most, .slice (some ⟨b, 0, none⟩) 2 2] w fun e w' => e = .returned (.bool (lightL mn [a, c])) ∧ Below w.heap.size w w' := by
  subst hm
  exact (light_any [a, c] mn b w hb (by simp) hmn).mono fun e w' ⟨h1, h2⟩ => ⟨h1, by rw [h2]; exact Below.refl _ _⟩
end Go.Proofs.YtjoifmnolmimkaaGreatDoor
