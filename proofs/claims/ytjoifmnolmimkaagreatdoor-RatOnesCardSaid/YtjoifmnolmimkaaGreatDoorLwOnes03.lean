/- The reference's Parts. The reference's FromInt, small, Int. RatOnes: the walk (printed by mkones.py). -/
import Derived.Test.YtjoifmnolmimkaaGreatDoorRb21
import Derived.Test.YtjoifmnolmimkaaGreatDoorRb16
import Derived.Test.YtjoifmnolmimkaaGreatDoorRb18
import Derived.Test.YtjoifmnolmimkaaGreatDoorRb08
import Derived.Laws.Runes
import Derived.Test.YtjoifmnolmimkaaGreatDoorRb20
import Derived.Test.YtjoifmnolmimkaaGreatDoorLwOnes02
import Derived.Test.YtjoifmnolmimkaaGreatDoorRb15
namespace Go.Proofs.YtjoifmnolmimkaaGreatDoor
open Go.RowKit Go.Shelf
open Lim

attribute [local go_sem] Oper.semAt_some

set_option maxRecDepth 100000 in
set_option maxHeartbeats 1000000 in
theorem refParts_err (a : ByteArray) (w : World) (ha : a.size ≤ 270000) (he : errQ a.data.toList ≠ 0) :
    Calls Tryz.prog 54 #[.string a] w fun e w' => e = .returned (.tuple #[.string ⟨#[]⟩, .string ⟨#[]⟩, .int .i64 (errQ a.data.toList : Int)]) ∧ Below w.heap.size w w' := by
  have HP := Lib.hid (rq_any a w ha)
  have hne : ((errQ a.data.toList : Int) == 0) = false := by rw [beq_eq_false_iff_ne]; omega
  have HE := Lib.hid he
  clear he
  go_enter Tryz.func54, Tryz.ntmps54
  go_wp2_with (go_at_call 76; refine HP.out.mono ?_; rintro e w1 ⟨v, rfl, -, hz, hb⟩; obtain rfl := hz HE.out; have HB := Lib.hid hb; clear hb hz)
  refine bodyPost_ret (results_tmp3 rfl _ _ _) rfl ?_
  exact ⟨rfl, below_alloc HB.out _⟩
set_option maxRecDepth 100000 in
set_option maxHeartbeats 2000000 in
theorem refParts_ok (a : ByteArray) (q : Rat) (k : Nat) (w : World) (ha : a.size ≤ 270000) (he : errQ a.data.toList = 0) (hq : valQ a.data.toList = q) (hk : SlashAt a.data.toList k) (hks : k ≤ a.size) :
    Calls Tryz.prog 54 #[.string a] w fun e w' => e = .returned (.tuple #[.string (a.extract 0 k), .string ⟨(Lib.decDigits q.den).toArray⟩, .int .i64 0]) ∧ Below w.heap.size w w' := by
  have HP := Lib.hid (rq_any a w ha)
  have hne : ((errQ a.data.toList : Int) == 0) = true := by rw [he]; rfl
  have HE := Lib.hid he
  have sq := sz_max he
  rw [hq] at HP sq
  obtain ⟨_, lq'⟩ := sz_limbs sq
  have HSL := Lib.hid (fun w => slash_is a k w (by omega) hk)
  have hki : (k : Int) ≤ (a.size : Int) := by omega
  have HL := Lib.hid lq'
  clear he hq sq hk lq'
  refine (callsIn_wide (n := 3)).1 ?_
  have h1 : 1 ≤ 3 := by omega
  have hmx : Tryz.prog.follows .mixedOrders = true := by kernel_rfl
  refine callsIn_of_wp Tryz.func54 rfl trivial ?_ rfl
  simp only [Tryz.ntmps54, List.size_toArray, List.length_cons, List.length_nil, Nat.reduceAdd, Nat.reduceSub, Array.replicate_succ, Array.replicate_zero, List.push_toArray, List.append_toArray, List.nil_append, List.cons_append]
  gi_upto_region 5 with fail
  refine ⟨trivial, ?_⟩
  refine (callsIn_wide.2 (HP.out)).mono ?_
  rintro e w1 ⟨v, rfl, hv, -, hb⟩
  obtain ⟨bq, N, D, A, c, A', c', rfl, hn, hd, HQ⟩ := isQ_open (hv HE.out)
  have HB := Lib.hid hb
  have HX := Lib.hid (below_alloc (Below.refl w1.heap.size w1) (.cells #[.bool bq, .slice A (toL N).length c, .slice A' (toL D).length c'] 64))
  have HD := Lib.hid (hd.below HX.out)
  have b0 := Blk.new w1 64 #[.bool bq, .slice A (toL N).length c, .slice A' (toL D).length c']
  have hlt := b0.lt
  clear hb hv hn hd
  gi_upto_region 5 with fail
  refine ⟨trivial, ?_⟩
  refine (callsIn_wide.2 (HSL.out _)).mono ?_
  rintro e w2 ⟨rfl, hw2⟩
  generalize w1.alloc (.cells #[.bool bq, .slice A (toL N).length c, .slice A' (toL D).length c'] 64) = W at *
  subst hw2
  gi_upto_region 5 with fail
  obtain ⟨x0, x1, x2⟩ := same_cells (S := fun k => k < w2.heap.size) b0 hlt
  have HXD := Lib.hid (below_drew HX.out)
  have HDD := Lib.hid (HD.out.below (below_drew (Below.refl w2.heap.size w2)))
  clear b0
  refine wpIn_stage (IsSame w2 (fun k => k < w2.heap.size)) [0, 1, 2, 3, 4, 6, 7, 8] [] hmx (by kernel_rfl) (isSame_of fun _ _ => rfl) ?_
  change wpStage _ _ _ _ _ _ _ _ (4 + 5) _ _ _
  refine stage_reads [0, 1, 2, 3, 4] 4 _ _ (by kernel_rfl) ?_
  change wpQuietIn _ _ _ _ (fun W' => ∃ x : SameAt w2 (fun k => k < w2.heap.size), W' = x.W) _ _ _
  simp only [pick_cons, pick_nil, List.getElem?_cons_zero, List.getElem?_cons_succ, Option.elim_some]
  repeat (gi_big_quiet_step (fail))
  refine wpQuietIn_nil ?_
  refine stage_one 5 (by kernel_rfl) rfl ?_
  gi_wp2
  refine ⟨trivial, ?_⟩
  refine (callsIn_wide.2 (rwrite_any D _ w2.drew HDD.out (by have := HL.out; have := HQ.out.2.2; rw [← this]; omega))).mono ?_
  rintro e w3 ⟨rfl, hb3⟩
  have hB3 : Below w2.heap.size w2 w3 := below_undrew hb3
  have HB3 := Lib.hid hB3
  clear hb3 hB3
  gi_wp2
  refine stage_post (isSame_below HB3.out (fun k hk => hk)) ?_
  change wpStage _ _ _ _ _ _ _ _ (0 + 3) _ _ _
  refine stage_reads [6, 7, 8] 0 _ _ (by kernel_rfl) ?_
  change wpQuietIn _ _ _ _ (fun W' => ∃ x : SameAt w2 (fun k => k < w2.heap.size), W' = x.W) _ _ _
  simp only [pick_cons, pick_nil, List.getElem?_cons_zero, List.getElem?_cons_succ, Option.elim_some]
  repeat (gi_big_quiet_step (fail))
  refine wpQuietIn_nil ?_
  refine stage_done (by kernel_rfl) ?_
  gi_wp2
  refine bodyPost_ret (results_tmp3 rfl _ _ _) rfl ?_
  refine ⟨?_, HB.out.trans ((HX.out.trans (HB3.out.mono HX.out.size)).mono HB.out.size)⟩
  rw [HQ.out.2.2]
  rfl
/-- The reference's Parts. -/
theorem refParts_any (a : ByteArray) (w : World) (ha : a.size ≤ 270000) :
    Calls Tryz.prog 54 #[.string a] w fun e w' => e = .returned (resP (partsQ a.data.toList)) ∧ Below w.heap.size w w' := by
  unfold partsQ resP
  by_cases he : errQ a.data.toList = 0
  · rw [if_neg (by omega)]
    obtain ⟨k, hk, hks, hex, _⟩ := slash_at a
    refine (refParts_ok a _ k w ha he rfl hk hks).mono ?_
    rintro e w' ⟨rfl, hb⟩
    refine ⟨?_, hb⟩
    have h1 : a.extract 0 k = ⟨(cutQ a.data.toList).1.toArray⟩ := by
      apply ByteArray.ext
      apply Array.toList_inj.1
      rw [hex]
    have h2 : (cutQ a.data.toList).2.getD [49] = Lib.decDigits (valQ a.data.toList).den := by
      have hc := cutQ_rat (valQ a.data.toList)
      rw [← (text_of_ok he).1] at hc
      rw [hc]
      by_cases h1 : (valQ a.data.toList).den = 1
      · rw [if_pos h1, h1, dec_one]; rfl
      · rw [if_neg h1]; rfl
    rw [h1, h2]
    rfl
  · rw [if_pos he]
    exact refParts_err a w ha he
end Go.Proofs.YtjoifmnolmimkaaGreatDoor
namespace Go.Proofs.YtjoifmnolmimkaaGreatDoor
open Go.RowKit Go.Shelf
open Lim

theorem enc_digit {d : Nat} (h : d < 10) : Utf8.encode ((48 + d : Nat) : Int) = ⟨#[UInt8.ofNat (48 + d)]⟩ := by
  unfold Utf8.encode
  have hv : Utf8.valid ((48 + d : Nat) : Int) = true := by
    unfold Utf8.valid
    simp
    omega
  simp only [hv, if_true, Int.toNat_natCast]
  rw [if_pos (by omega)]
theorem pow_up {m j k : Nat} (h : m < 10 ^ j) (hk : j ≤ k) : m < 10 ^ k := Nat.lt_of_lt_of_le h (Nat.pow_le_pow_right (by decide) hk)
theorem nd_up {m j k : Nat} (h : m < 10 ^ j) (hk : j ≤ k) (h1 : 1 ≤ k) : Lib.nDigits m ≤ k := (nDigits_iff h1).2 (pow_up h hk)
theorem dec_big {m : Nat} (h : ¬ m < 10) : Lib.decDigits m = Lib.decDigits (m / 10) ++ [UInt8.ofNat (48 + m % 10)] := by
  rw [Lib.decDigits, dif_neg h]
set_option maxRecDepth 100000 in
theorem fromInt_any (n : Nat) (w : World) (hn : n ≤ 9223372036854775807) :
    Calls Tryz.prog 112 #[.int .i64 (n : Int)] w fun e w' => e = .returned (.tuple #[.string ⟨(Lib.decDigits n).toArray⟩, .int .i64 0]) ∧ w' = w := by
  have hneg : decide ((n : Int) < 0) = false := decide_eq_false (by omega)
  go_enter Tryz.func112, Tryz.ntmps112
  go_wp2
  go_loopw [0, 4] (fun v0 v4 wr => ∃ (x : Int) (m : Nat) (s : ByteArray), m ≤ n ∧ v0 = .int .i64 x ∧ v4 = .string s ∧ Hid (x = (m : Int)) ∧ Hid (Lib.decDigits m ++ s.data.toList = Lib.decDigits n) ∧ wr = w) (fun v0 _ _ => (intOf v0).toNat)
  case atStart => exact ⟨n, n, ⟨#[]⟩, Nat.le_refl _, rfl, rfl, Lib.hid rfl, Lib.hid (by simp), rfl⟩
  case round =>
    obtain ⟨x, m, s, hm, rfl, rfl, HX, HS, rfl⟩ := hrel
    have HM := Lib.hid hm
    have x0 : 0 ≤ x := by have := HX.out; omega
    have x1 : x ≤ 9223372036854775807 := by have := HX.out; omega
    have hs19 : s.size + 1 ≤ 9223372036854775807 := by
      have h1 := congrArg List.length HS.out
      rw [List.length_append, Lib.decDigits_length, Lib.decDigits_length, ← size_list] at h1
      have h2 : Lib.nDigits n ≤ 19 := nd_up (j := 19) (by omega) (by decide) (by decide)
      omega
    clear hm hn hneg
    by_cases h9 : 9 < x
    · have e1 : 48 + x % 10 = ((48 + m % 10 : Nat) : Int) := by have := HX.out; omega
      have hE : Utf8.encode (48 + x % 10) = ⟨#[UInt8.ofNat (48 + m % 10)]⟩ := by rw [e1]; exact enc_digit (Nat.mod_lt _ (by decide))
      have hq : (Utf8.encode (48 + x % 10)).size = 1 := by rw [hE]; rfl
      have HE := Lib.hid hE
      have H9 := Lib.hid h9
      clear x0 e1 hE
      go_wp2
      have hmx := HX.out
      have h9' := H9.out
      refine ⟨⟨x / 10, m / 10, Utf8.encode (48 + x % 10) ++ s, by have := HM.out; omega, rfl, rfl, Lib.hid (by omega), Lib.hid ?_, trivial⟩, ?_⟩
      · rw [HE.out, ← HS.out, dec_big (show ¬ m < 10 by omega), List.append_assoc]
        congr 1
      · simp [intOf]; omega
    · have e1 : 48 + x = ((48 + m : Nat) : Int) := by have := HX.out; omega
      have hm9 : m < 10 := by have := HX.out; omega
      have hE : Utf8.encode (48 + x) = ⟨#[UInt8.ofNat (48 + m)]⟩ := by rw [e1]; exact enc_digit hm9
      have hq : (Utf8.encode (48 + x)).size = 1 := by rw [hE]; rfl
      have HE := Lib.hid hE
      have H9 := Lib.hid hm9
      have hd : decide (9 < x) = false := decide_eq_false h9
      have hx9 : x ≤ 9 := by omega
      clear x1 e1 hE hm9 h9
      go_wp2
      refine bodyPost_ret (results_tmp2 rfl _ _ _) rfl ?_
      refine ⟨?_, rfl⟩
      have : Utf8.encode (48 + x) ++ s = ⟨(Lib.decDigits n).toArray⟩ := by
        apply ByteArray.ext
        apply Array.toList_inj.1
        show _ = Lib.decDigits n
        rw [HE.out, ← HS.out, Lib.decDigits_one H9.out, ByteArray.data_append]
        simp
      rw [this]
      rfl
set_option maxRecDepth 100000 in
theorem rsmall_any (n : Nat) (w : World) (hn : n ≤ 9223372036854775807) :
    Calls Tryz.prog 114 #[.int .i64 (n : Int)] w fun e w' => e = .returned (.string ⟨(Lib.decDigits n).toArray⟩) ∧ w' = w := by
  have HC := Lib.hid (fromInt_any n w hn)
  generalize (⟨(Lib.decDigits n).toArray⟩ : ByteArray) = s at *
  go_enter Tryz.func114, Tryz.ntmps114
  go_wp2_with (go_at_call 112; refine HC.out.mono ?_; rintro e w1 ⟨rfl, hw1⟩; subst hw1)
  go_ret
  exact ⟨rfl, rfl⟩
theorem dv_dec (m : Nat) : dv (⟨(Lib.decDigits m).toArray⟩ : ByteArray).data.toList = m := by
  show dv (Lib.decDigits m) = m
  exact dv_decDigits m
set_option maxRecDepth 100000 in
set_option maxHeartbeats 1000000 in
/-- The reference's Int. -/
theorem refInt_any (n : Int) (w : World) (h0 : -9223372036854775808 ≤ n) (h1 : n ≤ 9223372036854775807) :
    Calls Tryz.prog 57 #[.int .i64 n] w fun e w' => e = .returned (.string ⟨(Lib.itoa n).toArray⟩) ∧ Below w.heap.size w w' := by
  by_cases hn : 0 ≤ n
  · obtain ⟨k, rfl⟩ := Int.eq_ofNat_of_zero_le hn
    have hd : decide (0 ≤ (k : Int)) = true := decide_eq_true hn
    have hi : Lib.itoa (k : Int) = Lib.decDigits k := by unfold Lib.itoa; rw [if_neg (by omega)]; simp
    rw [hi]
    have HC := Lib.hid (fromInt_any k w (by omega))
    generalize (⟨(Lib.decDigits k).toArray⟩ : ByteArray) = s at *
    clear hi
    go_enter Tryz.func57, Tryz.ntmps57
    go_wp2_with (go_at_call 112; refine HC.out.mono ?_; rintro e w1 ⟨rfl, hw1⟩; subst hw1)
    go_ret
    exact ⟨rfl, Below.refl _ _⟩
  · obtain ⟨m, hnm⟩ : ∃ m : Nat, n = -((m : Int) + 1) := ⟨(-(n + 1)).toNat, by omega⟩
    have hm : m ≤ 9223372036854775807 := by omega
    have hi : Lib.itoa n = 45 :: Lib.decDigits (m + 1) := by
      rw [hnm]
      unfold Lib.itoa
      rw [if_pos (by omega), show (-((m : Int) + 1)).natAbs = m + 1 by omega]
    rw [hi]
    have hsn : (⟨(Lib.decDigits m).toArray⟩ : ByteArray).size = Lib.nDigits m := by
      rw [size_list]
      show (Lib.decDigits m).length = _
      rw [Lib.decDigits_length]
    have hnd : Lib.nDigits m ≤ 4000 := nd_up (j := 19) (by omega) (by decide) (by decide)
    have hnd1 : Lib.nDigits (m + 1) ≤ 4000 := nd_up (j := 19) (by omega) (by decide) (by decide)
    obtain ⟨t, ht⟩ : ∃ t : ByteArray, t = ⟨(Lib.decDigits (m + 1)).toArray⟩ := ⟨_, rfl⟩
    have hts : t.size + 1 ≤ 9223372036854775807 := by
      rw [ht, size_list]
      show (Lib.decDigits (m + 1)).length + 1 ≤ _
      rw [Lib.decDigits_length]
      omega
    have HT := Lib.hid ht
    clear ht
    have hl0 := limbs_of_nd hnd (show 4000 ≤ 9 * 445 by omega)
    have hl1 := limbs_of_nd hnd1 (show 4000 ≤ 9 * 445 by omega)
    have e1 : toL 1 = [1] := by rw [toL_pos (by omega)]; simp [B_val, toL_zero]
    have HL := Lib.hid (And.intro hl0 (And.intro hl1 (show (toL 1).length ≤ 40000 by rw [e1]; decide)))
    have HS := Lib.hid (rsmall_any m w hm)
    have HD := Lib.hid (And.intro (dv_dec m) (And.intro hnd hsn))
    have HG := Lib.hid (show Dg (⟨(Lib.decDigits m).toArray⟩ : ByteArray).data.toList from dg_of_form (nform_dec m))
    have hneg : -(n + 1) = (m : Int) := by omega
    have HN := Lib.hid hneg
    clear hnd hnd1 hl0 hl1 e1 hi hsn hneg hm hnm h1
    have TK1 : True := trivial
    go_enter Tryz.func57, Tryz.ntmps57
    go_wp2_with (first
      | (clear TK1; go_at_call 114; (first | rw [HN.out] | skip); refine HS.out.mono ?_; rintro e w1 ⟨rfl, hw1⟩; subst hw1)
      | (go_at_call 90; refine (rread_any _ _ HG.out (by have := HD.out.2; omega)).mono ?_; rintro e w2 ⟨v2, rfl, hv2, hb2⟩; rw [HD.out.1] at hv2; have HV2 := Lib.hid hv2; have HB2 := Lib.hid hb2; clear hv2 hb2)
      | (go_at_call 115; refine (rone_any _).mono ?_; rintro e w3 ⟨v3, rfl, hv3, hb3⟩; have HV3 := Lib.hid hv3; have HV2' := Lib.hid (HV2.out.below hb3); have HB3 := Lib.hid (HB2.out.trans (hb3.mono HB2.out.size)); clear hv3 hb3)
      | (go_at_call 113; refine (rplus_any m 1 _ _ _ HV2'.out HV3.out (by have := HL.out.1; omega) HL.out.2.2).mono ?_; rintro e w4 ⟨v4, rfl, hv4, hb4⟩; have HV4 := Lib.hid hv4; have HB4 := Lib.hid (HB3.out.trans (hb4.mono HB3.out.size)); clear hv4 hb4)
      | (go_at_call 110; refine (rwrite_any (m + 1) _ _ HV4.out (by have := HL.out.2.1; omega)).mono ?_; rintro e w5 ⟨rfl, hb5⟩; rw [← HT.out]; have HB5 := Lib.hid (HB4.out.trans (hb5.mono HB4.out.size)); clear hb5))
    go_ret
    refine ⟨?_, HB5.out⟩
    rw [show (⟨(45 :: Lib.decDigits (m + 1)).toArray⟩ : ByteArray) = ⟨#[45]⟩ ++ t by rw [HT.out]; apply ByteArray.ext; apply Array.toList_inj.1; rw [ByteArray.data_append]; simp]
    rfl
end Go.Proofs.YtjoifmnolmimkaaGreatDoor
namespace Go.Proofs.YtjoifmnolmimkaaGreatDoor
open Go.RowKit Go.Shelf
open Lim

set_option maxRecDepth 100000 in
set_option maxHeartbeats 8000000 in
theorem ones_walk (a s1 s2 s3 s4 s5 s6 s7 s8 s9 : ByteArray) (n m k1 k2 k3 k4 k5 k6 k7 k8 k9 x : Int) (w : World) 
    (PNeg : Hid (∀ w, Res w → Calls Tryz.prog 20 #[.string a] w fun e w' => e = .returned (.tuple #[.string s1, .int .i64 k1]) ∧ Below w.heap.size w w')) (QNeg : Hid (∀ w, Calls Tryz.prog 48 #[.string a] w fun e w' => e = .returned (.tuple #[.string s1, .int .i64 k1]) ∧ Below w.heap.size w w'))
    (PAbs : Hid (∀ w, Res w → Calls Tryz.prog 27 #[.string a] w fun e w' => e = .returned (.tuple #[.string s2, .int .i64 k2]) ∧ Below w.heap.size w w')) (QAbs : Hid (∀ w, Calls Tryz.prog 49 #[.string a] w fun e w' => e = .returned (.tuple #[.string s2, .int .i64 k2]) ∧ Below w.heap.size w w'))
    (PInv : Hid (∀ w, Res w → Calls Tryz.prog 15 #[.string a] w fun e w' => e = .returned (.tuple #[.string s3, .int .i64 k3]) ∧ Below w.heap.size w w')) (QInv : Hid (∀ w, Calls Tryz.prog 50 #[.string a] w fun e w' => e = .returned (.tuple #[.string s3, .int .i64 k3]) ∧ Below w.heap.size w w'))
    (PPow : Hid (∀ w, Res w → Calls Tryz.prog 14 #[.string a, .int .i64 n] w fun e w' => e = .returned (.tuple #[.string s4, .int .i64 k4]) ∧ Below w.heap.size w w')) (QPow : Hid (∀ w, Calls Tryz.prog 51 #[.string a, .int .i64 n] w fun e w' => e = .returned (.tuple #[.string s4, .int .i64 k4]) ∧ Below w.heap.size w w'))
    (PFloor : Hid (∀ w, Res w → Calls Tryz.prog 35 #[.string a] w fun e w' => e = .returned (.tuple #[.string s5, .int .i64 k5]) ∧ Below w.heap.size w w')) (QFloor : Hid (∀ w, Calls Tryz.prog 52 #[.string a] w fun e w' => e = .returned (.tuple #[.string s5, .int .i64 k5]) ∧ Below w.heap.size w w'))
    (PCeil : Hid (∀ w, Res w → Calls Tryz.prog 36 #[.string a] w fun e w' => e = .returned (.tuple #[.string s6, .int .i64 k6]) ∧ Below w.heap.size w w')) (QCeil : Hid (∀ w, Calls Tryz.prog 53 #[.string a] w fun e w' => e = .returned (.tuple #[.string s6, .int .i64 k6]) ∧ Below w.heap.size w w'))
    (PParts : Hid (∀ w, Res w → Calls Tryz.prog 25 #[.string a] w fun e w' => e = .returned (.tuple #[.string s7, .string s8, .int .i64 k7]) ∧ Below w.heap.size w w')) (QParts : Hid (∀ w, Calls Tryz.prog 54 #[.string a] w fun e w' => e = .returned (.tuple #[.string s7, .string s8, .int .i64 k7]) ∧ Below w.heap.size w w'))
    (PSign : Hid (∀ w, Res w → Calls Tryz.prog 28 #[.string a] w fun e w' => e = .returned (.tuple #[.int .i64 x, .int .i64 k8]) ∧ Below w.heap.size w w')) (QSign : Hid (∀ w, Calls Tryz.prog 55 #[.string a] w fun e w' => e = .returned (.tuple #[.int .i64 x, .int .i64 k8]) ∧ Below w.heap.size w w'))
    (PCheck : Hid (∀ w, Res w → Calls Tryz.prog 56 #[.string a] w fun e w' => e = .returned (.int .i64 k9) ∧ Below w.heap.size w w')) (QCheck : Hid (∀ w, Calls Tryz.prog 23 #[.string a] w fun e w' => e = .returned (.int .i64 k9) ∧ Below w.heap.size w w'))
    (PInt : Hid (∀ w, Res w → Calls Tryz.prog 29 #[.int .i64 m] w fun e w' => e = .returned (.string s9) ∧ Below w.heap.size w w')) (QInt : Hid (∀ w, Calls Tryz.prog 57 #[.int .i64 m] w fun e w' => e = .returned (.string s9) ∧ Below w.heap.size w w')) (HV : Hid (decide (a.size ≤ 8100) = true)) (hr : Res w) :
    Calls Tryz.prog 9 #[.string a, .int .i64 n, .int .i64 m] w fun e w' => e = .returned (.bool true) ∧ Below w.heap.size w w' := by
  have HR := Lib.hid hr
  have HB := Lib.hid (Below.refl w.heap.size w)
  clear hr
  go_enter Tryz.func9, Tryz.ntmps9
  go_wp2_with (first
    | (go_at_call 11; refine (lives_any _ HR.out).mono ?_; rintro e w1 ⟨rfl, hb1⟩; replace HR := Lib.hid (HR.out.below hb1); replace HB := Lib.hid (HB.out.trans (hb1.mono HB.out.size)); clear hb1)
    | (go_at_call 37; refine (light1_any a 8100 8100 _ _ rfl (by omega) (Blk.new _ _ _)).mono ?_; rintro e w1 ⟨rfl, hb1⟩; rw [HV.out]; replace HR := Lib.hid ((HR.out.below (below_alloc (Below.refl _ _) _)).below hb1); replace HB := Lib.hid ((below_alloc HB.out _).trans (hb1.mono (below_alloc HB.out _).size)); clear hb1)
    | (go_at_call 20; refine (PNeg.out _ HR.out).mono ?_; rintro e w1 ⟨rfl, hb1⟩; replace HR := Lib.hid (HR.out.below hb1); replace HB := Lib.hid (HB.out.trans (hb1.mono HB.out.size)); clear hb1)
    | (go_at_call 48; refine (QNeg.out _).mono ?_; rintro e w1 ⟨rfl, hb1⟩; replace HR := Lib.hid (HR.out.below hb1); replace HB := Lib.hid (HB.out.trans (hb1.mono HB.out.size)); clear hb1)
    | (go_at_call 27; refine (PAbs.out _ HR.out).mono ?_; rintro e w1 ⟨rfl, hb1⟩; replace HR := Lib.hid (HR.out.below hb1); replace HB := Lib.hid (HB.out.trans (hb1.mono HB.out.size)); clear hb1)
    | (go_at_call 49; refine (QAbs.out _).mono ?_; rintro e w1 ⟨rfl, hb1⟩; replace HR := Lib.hid (HR.out.below hb1); replace HB := Lib.hid (HB.out.trans (hb1.mono HB.out.size)); clear hb1)
    | (go_at_call 15; refine (PInv.out _ HR.out).mono ?_; rintro e w1 ⟨rfl, hb1⟩; replace HR := Lib.hid (HR.out.below hb1); replace HB := Lib.hid (HB.out.trans (hb1.mono HB.out.size)); clear hb1)
    | (go_at_call 50; refine (QInv.out _).mono ?_; rintro e w1 ⟨rfl, hb1⟩; replace HR := Lib.hid (HR.out.below hb1); replace HB := Lib.hid (HB.out.trans (hb1.mono HB.out.size)); clear hb1)
    | (go_at_call 14; refine (PPow.out _ HR.out).mono ?_; rintro e w1 ⟨rfl, hb1⟩; replace HR := Lib.hid (HR.out.below hb1); replace HB := Lib.hid (HB.out.trans (hb1.mono HB.out.size)); clear hb1)
    | (go_at_call 51; refine (QPow.out _).mono ?_; rintro e w1 ⟨rfl, hb1⟩; replace HR := Lib.hid (HR.out.below hb1); replace HB := Lib.hid (HB.out.trans (hb1.mono HB.out.size)); clear hb1)
    | (go_at_call 35; refine (PFloor.out _ HR.out).mono ?_; rintro e w1 ⟨rfl, hb1⟩; replace HR := Lib.hid (HR.out.below hb1); replace HB := Lib.hid (HB.out.trans (hb1.mono HB.out.size)); clear hb1)
    | (go_at_call 52; refine (QFloor.out _).mono ?_; rintro e w1 ⟨rfl, hb1⟩; replace HR := Lib.hid (HR.out.below hb1); replace HB := Lib.hid (HB.out.trans (hb1.mono HB.out.size)); clear hb1)
    | (go_at_call 36; refine (PCeil.out _ HR.out).mono ?_; rintro e w1 ⟨rfl, hb1⟩; replace HR := Lib.hid (HR.out.below hb1); replace HB := Lib.hid (HB.out.trans (hb1.mono HB.out.size)); clear hb1)
    | (go_at_call 53; refine (QCeil.out _).mono ?_; rintro e w1 ⟨rfl, hb1⟩; replace HR := Lib.hid (HR.out.below hb1); replace HB := Lib.hid (HB.out.trans (hb1.mono HB.out.size)); clear hb1)
    | (go_at_call 25; refine (PParts.out _ HR.out).mono ?_; rintro e w1 ⟨rfl, hb1⟩; replace HR := Lib.hid (HR.out.below hb1); replace HB := Lib.hid (HB.out.trans (hb1.mono HB.out.size)); clear hb1)
    | (go_at_call 54; refine (QParts.out _).mono ?_; rintro e w1 ⟨rfl, hb1⟩; replace HR := Lib.hid (HR.out.below hb1); replace HB := Lib.hid (HB.out.trans (hb1.mono HB.out.size)); clear hb1)
    | (go_at_call 28; refine (PSign.out _ HR.out).mono ?_; rintro e w1 ⟨rfl, hb1⟩; replace HR := Lib.hid (HR.out.below hb1); replace HB := Lib.hid (HB.out.trans (hb1.mono HB.out.size)); clear hb1)
    | (go_at_call 55; refine (QSign.out _).mono ?_; rintro e w1 ⟨rfl, hb1⟩; replace HR := Lib.hid (HR.out.below hb1); replace HB := Lib.hid (HB.out.trans (hb1.mono HB.out.size)); clear hb1)
    | (go_at_call 56; refine (PCheck.out _ HR.out).mono ?_; rintro e w1 ⟨rfl, hb1⟩; replace HR := Lib.hid (HR.out.below hb1); replace HB := Lib.hid (HB.out.trans (hb1.mono HB.out.size)); clear hb1)
    | (go_at_call 23; refine (QCheck.out _).mono ?_; rintro e w1 ⟨rfl, hb1⟩; replace HR := Lib.hid (HR.out.below hb1); replace HB := Lib.hid (HB.out.trans (hb1.mono HB.out.size)); clear hb1)
    | (go_at_call 29; refine (PInt.out _ HR.out).mono ?_; rintro e w1 ⟨rfl, hb1⟩; replace HR := Lib.hid (HR.out.below hb1); replace HB := Lib.hid (HB.out.trans (hb1.mono HB.out.size)); clear hb1)
    | (go_at_call 57; refine (QInt.out _).mono ?_; rintro e w1 ⟨rfl, hb1⟩; replace HR := Lib.hid (HR.out.below hb1); replace HB := Lib.hid (HB.out.trans (hb1.mono HB.out.size)); clear hb1)
    | (go_at_call 42; refine (same_any _ _ _).mono ?_; rintro e w1 ⟨rfl, hw1⟩; subst hw1))
  go_ret
  exact ⟨rfl, HB.out⟩
set_option maxRecDepth 100000 in
set_option maxHeartbeats 2000000 in
theorem ratOnes_any (a : ByteArray) (n m : Int) (w : World) (hr : Res w) (hn : -9223372036854775808 ≤ n ∧ n ≤ 9223372036854775807) (hm : -9223372036854775808 ≤ m ∧ m ≤ 9223372036854775807) :
    Calls Tryz.prog 9 #[.string a, .int .i64 n, .int .i64 m] w fun e w' => e = .returned (.bool true) ∧ Below w.heap.size w w' := by
  obtain ⟨hn0, hn1⟩ := hn
  obtain ⟨hm0, hm1⟩ := hm
  by_cases hv : a.size ≤ 8100
  · have HV := Lib.hid (decide_eq_true hv)
    have ha : a.size ≤ 270000 := by omega
    exact ones_walk a _ _ _ _ _ _ _ _ _ n m _ _ _ _ _ _ _ _ _ _ w (Lib.hid (fun w hr => ratNeg_any a w ha hr)) (Lib.hid (fun w => refNeg_any a w ha)) (Lib.hid (fun w hr => ratAbs_any a w ha hr)) (Lib.hid (fun w => refAbs_any a w ha)) (Lib.hid (fun w hr => ratInv_any a w ha hr)) (Lib.hid (fun w => refInv_any a w ha)) (Lib.hid (fun w hr => ratPow_any a n w ha hr hn0 hn1)) (Lib.hid (fun w => refPow_any a n w ha hn0 hn1)) (Lib.hid (fun w hr => ratFloor_any a w ha hr)) (Lib.hid (fun w => refFloor_any a w ha)) (Lib.hid (fun w hr => ratCeil_any a w ha hr)) (Lib.hid (fun w => refCeil_any a w ha)) (Lib.hid (fun w hr => ratParts_any a w ha hr)) (Lib.hid (fun w => refParts_any a w ha)) (Lib.hid (fun w hr => ratSign_any a w ha hr)) (Lib.hid (fun w => refSign_any a w ha)) (Lib.hid (fun w hr => ratCheck_any a w ha hr)) (Lib.hid (fun w => refCheck_any a w ha)) (Lib.hid (fun w hr => ratInt_any m w hr hm0 hm1)) (Lib.hid (fun w => refInt_any m w hm0 hm1)) HV hr
  · have HV := Lib.hid (decide_eq_false hv)
    have HR := Lib.hid hr
    have HB := Lib.hid (Below.refl w.heap.size w)
    clear hv hr hn0 hn1 hm0 hm1
    go_enter Tryz.func9, Tryz.ntmps9
    go_wp2_with (first
    | (go_at_call 11; refine (lives_any _ HR.out).mono ?_; rintro e w1 ⟨rfl, hb1⟩; replace HR := Lib.hid (HR.out.below hb1); replace HB := Lib.hid (HB.out.trans (hb1.mono HB.out.size)); clear hb1)
    | (go_at_call 37; refine (light1_any a 8100 8100 _ _ rfl (by omega) (Blk.new _ _ _)).mono ?_; rintro e w1 ⟨rfl, hb1⟩; rw [HV.out]; replace HR := Lib.hid ((HR.out.below (below_alloc (Below.refl _ _) _)).below hb1); replace HB := Lib.hid ((below_alloc HB.out _).trans (hb1.mono (below_alloc HB.out _).size)); clear hb1))
    go_ret
    exact ⟨rfl, HB.out⟩
end Go.Proofs.YtjoifmnolmimkaaGreatDoor
