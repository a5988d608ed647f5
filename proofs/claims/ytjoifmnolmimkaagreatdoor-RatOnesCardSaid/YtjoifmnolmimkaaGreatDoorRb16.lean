/- The reference's Write. rat: Parts, Int; the natural numbers' reference: both, number, Mul, Gcd. -/
import Derived.Test.YtjoifmnolmimkaaGreatDoorRb09
import Derived.Test.YtjoifmnolmimkaaGreatDoorRb15
namespace Go.Proofs.YtjoifmnolmimkaaGreatDoor
open Go.RowKit Go.Shelf
open Lim

theorem padk_left (k x : Nat) : padk (k + 1) x = UInt8.ofNat (48 + x / 10 ^ k % 10) :: padk k x := by
  induction k generalizing x with
  | zero => simp [padk]
  | succ k ih =>
    rw [padk, ih, padk, Nat.div_div_eq_div_mul, Nat.pow_succ, Nat.mul_comm 10]
    rfl

section
variable {w : World} {g : Nat} {t : TypeId} {P S : List Value} {v : Value}
theorem mid_get (h : Blk w g t (P ++ (v :: S)).toArray) {n : Nat} (hn : n = P.length) : w.cell? ⟨g, n, none⟩ = some v := by
  subst hn
  rw [h.cell, List.getElem?_toArray, List.getElem?_append_right (Nat.le_refl _), Nat.sub_self]
  rfl
theorem mid_set (h : Blk w g t (P ++ (v :: S)).toArray) {n : Nat} (hn : n = P.length) (v' : Value) : Blk (w.setCell ⟨g, n, none⟩ v') g t (P ++ (v' :: S)).toArray := by
  subst hn
  have h2 := h.set_ P.length v'
  rw [List.setIfInBounds_toArray, List.set_append_right _ _ (Nat.le_refl _), Nat.sub_self, List.set_cons_zero] at h2
  exact h2
end

theorem Tryz.infoB : (Tryz.prog.info? 5).map (fun i => (i.zero, i.size, i.bytes)) = some (some (.int .u8 0), 1, 1) := by kernel_rfl
theorem run_makeB {P : Program} {t e : TypeId} {i : TypeInfo} {z : Value} (ht : P.underlying t = some (.slice e)) (hi : P.info? e = some i) (hz : i.zero = some z) (hsz : i.size = 1) (hby : i.bytes = 1)
    {n : Nat} (hn : n ≤ 1000000) {C : Int} (hC : C = (n : Int)) (w : World) :
    (Instr.makeSlice t (.int .i64 C) (.int .i64 C)).run P w = .ok (.slice (some ⟨w.heap.size, 0, none⟩) n n) (w.alloc (.cells (madeCells z.cells n) e)) := by
  subst hC
  have hb : (i.bytes : Int) * (n : Int) ≤ 281474976710656 := by rw [hby]; omega
  have hr := run_make (P := P) w t e i z ht hi hz .i64 .i64 n n (by omega) (by omega) hb (by omega)
  simp only [Int.toNat_natCast, hsz, Nat.mul_one] at hr
  exact hr
theorem bytes_zeros (n : Nat) : madeCells #[.int .u8 0] n = (Lib.byteCells (List.replicate n 0)).toArray := by
  apply Array.toList_inj.1
  rw [toList_madeCells_one]; simp [Lib.byteCells]

set_option maxRecDepth 100000 in
set_option maxHeartbeats 4000000 in
theorem rwrite_any (x : Nat) (vx : Value) (w : World) (hx : IsNatI w vx x) (hlx : (toL x).length ≤ 40000) :
    Calls Tryz.prog 110 #[vx] w fun e w' => e = .returned (.string ⟨(Lib.decDigits x).toArray⟩) ∧ Below w.heap.size w w' := by
  obtain ⟨A, c, rfl, hc, hcm, hra⟩ := hx
  by_cases h0 : x = 0
  · subst h0
    have hl : (toL 0).length = 0 := by rw [toL_zero]; rfl
    have hs : (⟨(Lib.decDigits 0).toArray⟩ : ByteArray) = ⟨#[48]⟩ := by rw [Lib.decDigits_one (by omega)]; rfl
    rw [hl, hs]
    clear hl hra hs
    go_enter Tryz.func110, Tryz.ntmps110
    go_wp2
    go_ret
    exact ⟨rfl, Below.refl _ _⟩
  · have hl : 0 < (toL x).length := toL_len_pos.2 h0
    obtain ⟨i0, hi, hz0, hz1, hz2⟩ := info_parts Tryz.infoB
    have hmk := fun W => run_makeB (P := Tryz.prog) Tryz.underlying121 hi hz0 hz1 hz2 (n := 9 * (toL x).length) (by omega) (C := 9 * ((toL x).length : Int)) (by omega) W
    obtain ⟨b, o, rfl, hb, hcell⟩ := hra (by rw [I64_length]; omega)
    have HC := Lib.hid (fun i (hi : i < (toL x).length) => hcell i _ (I64_get hi))
    have hne : (((toL x).length : Int) == 0) = false := by rw [beq_eq_false_iff_ne]; omega
    have HXS := Lib.hid (sm_toL x)
    have HDV := Lib.hid (dv_wrAll_all (n := x))
    clear hcell hra h0
    go_enter Tryz.func110, Tryz.ntmps110
    go_wp2
    clear hmk
    have hblk0 : Blk (w.alloc (.cells (madeCells #[.int .u8 0] (9 * (toL x).length)) 5)) w.heap.size 5 (Lib.byteCells (wrAll (toL x) 0 ++ List.replicate (9 * ((toL x).length - 0)) 0)).toArray := by
      have : wrAll (toL x) 0 ++ List.replicate (9 * ((toL x).length - 0)) 0 = List.replicate (9 * (toL x).length) 0 := rfl
      rw [this, ← bytes_zeros]; exact Blk.new _ _ _
    have hBB : Below w.heap.size w (w.alloc (.cells (madeCells #[.int .u8 0] (9 * (toL x).length)) 5)) := (Below.refl _ _).alloc (Nat.le_refl _) _
    generalize w.alloc (.cells (madeCells #[.int .u8 0] (9 * (toL x).length)) 5) = W1 at *
    go_loopw [4] (fun si wr => ∃ i : Nat, i ≤ (toL x).length ∧ si = .int .i64 (i : Int) ∧ Blk wr w.heap.size 5 (Lib.byteCells (wrAll (toL x) i ++ List.replicate (9 * ((toL x).length - i)) 0)).toArray ∧ Below w.heap.size w wr) (fun si _ => (toL x).length - (intOf si).toNat)
    case atStart => exact ⟨0, Nat.zero_le _, rfl, hblk0, hBB⟩
    case round =>
      obtain ⟨i, hi', rfl, hblk, hB⟩ := hrel
      clear hblk0 hBB
      by_cases hlt : i < (toL x).length
      · have hcx := (hB.cell (p := ⟨b, o + ((toL x).length - 1 - i), none⟩) hb).trans (HC.out ((toL x).length - 1 - i) (by omega))
        have hx0 := HXS.out.get ((toL x).length - 1 - i)
        have HWS := Lib.hid (wrAll_succ (toL x) i)
        have hi2 : ((toL x).length : Int) - 1 - (i : Int) = (((toL x).length - 1 - i : Nat) : Int) := by omega
        have hi3 : (toL x).length - 1 - i < (toL x).length := by omega
        generalize (toL x)[(toL x).length - 1 - i]?.getD 0 = x0 at *
        rw [B_val] at hx0
        have HB := Lib.hid hB
        have HBK := Lib.hid hblk
        clear hblk hB
        obtain ⟨wo, rfl⟩ : ∃ wo, wo = wr := ⟨_, rfl⟩
        go_wp2
        go_loopw [5, 6] (fun sn sk wr => ∃ j n : Nat, j ≤ 9 ∧ n = x0 / 10 ^ j ∧ sn = .int .i64 (n : Int) ∧ sk = .int .i64 (8 - (j : Int)) ∧ Blk wr w.heap.size 5 (Lib.byteCells (wrAll (toL x) i ++ (List.replicate (9 - j) 0 ++ (padk j x0 ++ List.replicate (9 * ((toL x).length - 1 - i)) 0)))).toArray ∧ Below w.heap.size w wr) (fun _ sk _ => (intOf sk + 1).toNat)
        case atStart =>
          refine ⟨0, x0, Nat.zero_le _, by simp, rfl, rfl, ?_, HB.out⟩
          have e : List.replicate (9 - 0) 0 ++ (padk 0 x0 ++ List.replicate (9 * ((toL x).length - 1 - i)) 0) = List.replicate (9 * ((toL x).length - i)) (0 : UInt8) := by
            show List.replicate 9 0 ++ ([] ++ List.replicate (9 * ((toL x).length - 1 - i)) 0) = _
            rw [List.nil_append, List.replicate_append_replicate]
            congr 1
            omega
          rw [e]
          exact HBK.out
        case round =>
          obtain ⟨j, n, hj, hn, rfl, rfl, hblk, hB⟩ := hrel
          have hnx : n ≤ x0 := by rw [hn]; exact Nat.div_le_self _ _
          have HN := Lib.hid hn
          have HB2 := Lib.hid hB
          by_cases hj9 : j = 9
          · subst hj9
            have hlast : 9 * ((toL x).length - 1 - i) = 9 * ((toL x).length - (i + 1)) := by omega
            have HBL := Lib.hid (show Blk wr w.heap.size 5 (Lib.byteCells (wrAll (toL x) (i + 1) ++ List.replicate (9 * ((toL x).length - (i + 1))) 0)).toArray from by
              rw [HWS.out, List.append_assoc, ← hlast]
              exact hblk)
            clear hn hblk hB hlast hcx
            go_wp2
            go_roundw
            case rel => exact ⟨i + 1, hlt, by go_num, HBL.out, HB2.out⟩
            case measure => simp [intOf]; omega
          · obtain ⟨k, hk⟩ : ∃ k, j + k = 8 := ⟨8 - j, by omega⟩
            have hkI : (8 : Int) - (j : Int) = (k : Int) := by omega
            have hPl : (Lib.byteCells (wrAll (toL x) i ++ List.replicate k 0)).length = 9 * i + k := by rw [Lib.byteCells_length, List.length_append, wrAll_length, List.length_replicate]
            have hform : Lib.byteCells (wrAll (toL x) i ++ (List.replicate (9 - j) 0 ++ (padk j x0 ++ List.replicate (9 * ((toL x).length - 1 - i)) 0))) =
                Lib.byteCells (wrAll (toL x) i ++ List.replicate k 0) ++ (.int .u8 0 :: Lib.byteCells (padk j x0 ++ List.replicate (9 * ((toL x).length - 1 - i)) 0)) := by
              rw [show 9 - j = k + 1 by omega, List.replicate_succ']
              simp [Lib.byteCells]
            rw [hform] at hblk
            have hst1 := mid_get hblk hPl.symm
            have hst2 := hblk.frozen (9 * i + k)
            have HSET := Lib.hid (fun v => mid_set hblk hPl.symm v)
            have hlen9 : 9 * i + k < 9 * (toL x).length := by omega
            clear hn hblk hB hform hPl hj9 hcx
            rw [hkI]
            go_wp2
            have hd := Nat.mod_lt n (show 0 < 10 by omega)
            go_roundw
            case rel =>
              refine ⟨j + 1, n / 10, by omega, ?_, int_eq (by omega), int_eq (by omega), ?_, HB2.out.setCell (p := ⟨w.heap.size, 9 * i + k, none⟩) (Nat.le_refl _) _⟩
              · rw [HN.out, Nat.div_div_eq_div_mul, Nat.pow_succ]
              · have h2 := HSET.out (.int .u8 (((48 + n % 10 : Nat)) : Int))
                have e : Lib.byteCells (wrAll (toL x) i ++ (List.replicate (9 - (j + 1)) 0 ++ (padk (j + 1) x0 ++ List.replicate (9 * ((toL x).length - 1 - i)) 0))) =
                    Lib.byteCells (wrAll (toL x) i ++ List.replicate k 0) ++ (.int .u8 (((48 + n % 10 : Nat)) : Int) :: Lib.byteCells (padk j x0 ++ List.replicate (9 * ((toL x).length - 1 - i)) 0)) := by
                  rw [show 9 - (j + 1) = k by omega, padk_left, ← HN.out]
                  have ht := toNat_ofNat hd
                  simp only [Lib.byteCells, List.map_append, List.map_cons, List.cons_append, List.append_assoc, ht]
                rw [e]
                exact h2
            case measure => simp [intOf]
      · obtain rfl : i = (toL x).length := by omega
        have hrow : Lib.byteCells (wrAll (toL x) (toL x).length ++ List.replicate (9 * ((toL x).length - (toL x).length)) 0) = Lib.byteCells (wrAll (toL x) (toL x).length) := by
          rw [Nat.sub_self]; simp
        rw [hrow] at hblk
        have HB := Lib.hid hB
        have HBK := Lib.hid hblk
        have HLN := Lib.hid (wrAll_length (toL x) (toL x).length)
        have HDG := Lib.hid (wrAll_dg (toL x) (toL x).length)
        clear hblk hB hrow
        obtain ⟨wq, rfl⟩ : ∃ wq, wq = wr := ⟨_, rfl⟩
        go_wp2
        go_loopw [3] (fun sb w3 => ∃ (k : Nat) (r : List UInt8), wrAll (toL x) (toL x).length = List.replicate k 48 ++ r ∧ r ≠ [] ∧ sb = .slice (some ⟨w.heap.size, k, none⟩) r.length r.length ∧ w3 = wq) (fun sb _ => match sb with | .slice _ n _ => n | _ => 0)
        case atStart => exact ⟨0, wrAll (toL x) (toL x).length, rfl, fun e => by have := HLN.out; rw [e] at this; simp at this; omega, by rw [HLN.out], rfl⟩
        case round =>
          obtain ⟨k, r, hkr, hrn, rfl, rfl⟩ := hrel
          have hsum : k + r.length = 9 * (toL x).length := by
            have := congrArg List.length hkr
            rw [HLN.out, List.length_append, List.length_replicate] at this
            omega
          have hrow : ∀ j (hj : j < r.length), wr.cell? ((⟨w.heap.size, k, none⟩ : Addr).add j) = some (.int .u8 ((r[j]'hj).toNat : Int)) := by
            intro j hj
            have h2 := HBK.out
            rw [hkr] at h2
            rw [Lib.add_plain, h2.cell, List.getElem?_toArray, Lib.byteCells, List.getElem?_map, List.getElem?_append_right (by rw [List.length_replicate]; omega), List.length_replicate, show k + j - k = j by omega, List.getElem?_eq_getElem hj]
            rfl
          have HRN := Lib.hid hrn
          have HKR := Lib.hid hkr
          have HDONE := Lib.hid (fun h => strip_done (HDG.out) hkr hrn h)
          rw [HDV.out] at HDONE
          have HCV := Lib.hid (run_convert_bytes_back (P := Tryz.prog) wr 121 9 5 ⟨w.heap.size, k, none⟩ r.length r Tryz.underlying121 Tryz.underlying5 Tryz.underlying9 hrow)
          by_cases h1 : 1 < r.length
          · have h1' : (1 : Int) < (r.length : Int) := by omega
            obtain ⟨ch, r', rfl⟩ := List.exists_cons_of_ne_nil hrn
            have hc0 := hrow 0 (by simp)
            rw [Lib.add_plain, Nat.add_zero] at hc0
            simp only [List.getElem_cons_zero] at hc0
            have hblt : w.heap.size < wr.heap.size := HBK.out.lt
            clear hrow hkr hrn
            by_cases hch : ch = 48
            · have hcb : ((ch.toNat : Int) == 48) = true := by rw [hch]; rfl
              have hci : (ch.toNat : Int) = 48 := by rw [hch]; rfl
              have HCH := Lib.hid hch
              clear hch
              have hrl : (ch :: r').length = r'.length + 1 := rfl
              rw [hrl] at h1 h1' hsum
              generalize hzz : (ch :: r').length = zz at *
              go_wp2
              go_roundw
              case rel =>
                have hne' : r' ≠ [] := fun e => by rw [e] at h1; simp at h1
                refine ⟨k + 1, r', ?_, hne', ?_, trivial⟩
                · rw [HKR.out, List.replicate_succ', List.append_assoc, HCH.out]; rfl
                · rw [if_neg hne']
              case measure => simp [← hzz]
            · have hcb : ((ch.toNat : Int) == 48) = false := by
                rw [beq_eq_false_iff_ne]
                intro e
                apply hch
                apply UInt8.toNat_inj.1
                show ch.toNat = 48
                omega
              have hci : ¬ (ch.toNat : Int) = 48 := by
                intro e
                apply hch
                apply UInt8.toNat_inj.1
                show ch.toNat = 48
                omega
              have HR := Lib.hid (HDONE.out (.inr (by rw [List.head?_cons]; intro e; injection e with e; exact hch e)))
              have hcv := HCV.out
              clear hch
              generalize hzz : (ch :: r').length = zz at *
              go_wp2
              go_ret
              exact ⟨by first | rfl | (rw [← HR.out]; rfl) | (rw [HR.out]; rfl), HB.out⟩
          · have h1' : ¬ (1 : Int) < (r.length : Int) := by omega
            have hr1 : r.length = 1 := by have := List.length_pos_iff.2 hrn; omega
            have HR := Lib.hid (HDONE.out (.inl hr1))
            have hcv := HCV.out
            clear hrow hkr hrn hr1
            generalize hzz : r.length = zz at *
            go_wp2
            go_ret
            exact ⟨by first | rfl | (rw [← HR.out]; rfl) | (rw [HR.out]; rfl), HB.out⟩
end Go.Proofs.YtjoifmnolmimkaaGreatDoor
namespace Go.Proofs.YtjoifmnolmimkaaGreatDoor
open Go.RowKit Go.Shelf
open Lim

/-- What Parts returns. -/
def partsQ (a : List UInt8) : List UInt8 × List UInt8 × Nat := if errQ a ≠ 0 then ([], [], errQ a) else ((cutQ a).1, (cutQ a).2.getD [49], 0)
def resP (x : List UInt8 × List UInt8 × Nat) : Value := .tuple #[.string ⟨x.1.toArray⟩, .string ⟨x.2.1.toArray⟩, .int .i64 (x.2.2 : Int)]
set_option maxRecDepth 100000 in
set_option maxHeartbeats 2000000 in
theorem ratParts_any (a : ByteArray) (w : World) (ha : a.size ≤ 270000) (hr : Res w) :
    Calls Tryz.prog 25 #[.string a] w fun e w' => e = .returned (resP (partsQ a.data.toList)) ∧ Below w.heap.size w w' := by
  have HCK := Lib.hid (ratCheck_any a w ha hr)
  have HR := Lib.hid hr
  have hc := cut_eq a.data.toList
  unfold partsQ
  by_cases he : errQ a.data.toList = 0
  · rw [if_neg (by omega)]
    rw [he] at HCK
    generalize cutQ a.data.toList = c at hc ⊢
    obtain ⟨la, ob⟩ := c
    have HCUT := Lib.hid hc
    clear hc he hr
    cases ob with
    | none =>
      go_enter Tryz.func25, Tryz.ntmps25
      go_wp2_with (first
        | (go_at_call 56; refine HCK.out.mono ?_; rintro e w1 ⟨rfl, hb1⟩; have HB1 := Lib.hid hb1; clear hb1)
        | (go_at_call 77; (obtain ⟨mx, hmx⟩ := max_of (HR.out.below HB1.out); refine (Tryz.strings_Cut a ⟨#[47]⟩ mx _ (by omega) hmx).mono ?_; rintro e w2 ⟨rfl, k, hw2⟩; rw [show Lib.cut a.data.toList (⟨#[47]⟩ : ByteArray).data.toList = _ from HCUT.out]; dsimp only [Option.isSome, Option.getD]; have HB2 := Lib.hid (show Below w.heap.size w w2 by rw [hw2]; exact below_drewN HB1.out); clear hw2 hmx)))
      refine bodyPost_ret (results_tmp3 rfl _ _ _) rfl ?_
      exact ⟨rfl, HB2.out⟩
    | some lb =>
      go_enter Tryz.func25, Tryz.ntmps25
      go_wp2_with (first
        | (go_at_call 56; refine HCK.out.mono ?_; rintro e w1 ⟨rfl, hb1⟩; have HB1 := Lib.hid hb1; clear hb1)
        | (go_at_call 77; (obtain ⟨mx, hmx⟩ := max_of (HR.out.below HB1.out); refine (Tryz.strings_Cut a ⟨#[47]⟩ mx _ (by omega) hmx).mono ?_; rintro e w2 ⟨rfl, k, hw2⟩; rw [show Lib.cut a.data.toList (⟨#[47]⟩ : ByteArray).data.toList = _ from HCUT.out]; dsimp only [Option.isSome, Option.getD]; have HB2 := Lib.hid (show Below w.heap.size w w2 by rw [hw2]; exact below_drewN HB1.out); clear hw2 hmx)))
      refine bodyPost_ret (results_tmp3 rfl _ _ _) rfl ?_
      exact ⟨rfl, HB2.out⟩
  · rw [if_pos he]
    have hne : ((errQ a.data.toList : Int) == 0) = false := by rw [beq_eq_false_iff_ne]; omega
    clear he hc hr
    generalize errQ a.data.toList = k at *
    go_enter Tryz.func25, Tryz.ntmps25
    go_wp2_with (go_at_call 56; refine HCK.out.mono ?_; rintro e w1 ⟨rfl, hb1⟩; have HB1 := Lib.hid hb1; clear hb1)
    refine bodyPost_ret (results_tmp3 rfl _ _ _) rfl ?_
    exact ⟨rfl, HB1.out⟩

/-- The texts of a number's parts. -/
def numT (p : Rat) : ByteArray := ⟨((if ng p then [45] else []) ++ Lib.decDigits (nm p)).toArray⟩
def denT (p : Rat) : ByteArray := ⟨(Lib.decDigits p.den).toArray⟩
theorem cutQ_rat (p : Rat) : cutQ (ratText p) = ((if ng p then [45] else []) ++ Lib.decDigits (nm p), if p.den = 1 then none else some (Lib.decDigits p.den)) := by
  have hns : (47 : UInt8) ∉ (if ng p then ([45] : List UInt8) else []) ++ Lib.decDigits (nm p) := by
    intro h
    rcases List.mem_append.1 h with h | h
    · split at h <;> simp at h
    · exact not_slash (decDigits_dg _) h
  unfold ratText
  by_cases h1 : p.den = 1
  · rw [if_pos h1, if_pos h1, List.append_nil, cutQ_none hns]
  · rw [if_neg h1, if_neg h1, cutQ_slash hns]
theorem partsT {a : ByteArray} {p : Rat} (w : World) (ha : IsT a p) (hr : Res w) :
    Calls Tryz.prog 25 #[.string a] w fun e w' => e = .returned (.tuple #[.string (numT p), .string (denT p), .int .i64 0]) ∧ Below w.heap.size w w' := by
  refine (ratParts_any a w ha.size hr).mono ?_
  rintro e w' ⟨rfl, h⟩
  refine ⟨?_, h⟩
  unfold partsQ resP
  rw [ha.err, ha.list, cutQ_rat]
  unfold numT denT
  by_cases h1 : p.den = 1
  · rw [if_pos h1, h1, dec_one]; rfl
  · rw [if_neg h1]; rfl
set_option maxRecDepth 100000 in
/-- rat.Int. -/
theorem ratInt_any (n : Int) (w : World) (hr : Res w) (h0 : -9223372036854775808 ≤ n) (h1 : n ≤ 9223372036854775807) :
    Calls Tryz.prog 29 #[.int .i64 n] w fun e w' => e = .returned (.string ⟨(Lib.itoa n).toArray⟩) ∧ Below w.heap.size w w' := by
  have HC := Lib.hid (Tryz.strconv_Itoa n h0 h1 w hr.tab)
  generalize Lib.itoa n = l at *
  clear hr
  go_enter Tryz.func29, Tryz.ntmps29
  go_wp2_with (go_at_call 86; refine HC.out.mono ?_; rintro e w1 ⟨rfl, k, os, rfl⟩)
  go_ret
  exact ⟨rfl, Lib.below_grow _ _ (Nat.le_refl _) _ _⟩
theorem itoa_text (n : Int) : Lib.itoa n = ratText (n : Rat) := by
  unfold Lib.itoa ratText ng nm
  rw [Rat.num_intCast, Rat.den_intCast]
  by_cases h : n < 0
  · simp [h]
  · have : n.toNat = n.natAbs := by omega
    simp [h, this]
theorem intT {c : ByteArray} (n : Int) (w : World) (hc : IsT c (n : Rat)) (hr : Res w) (h0 : -9223372036854775808 ≤ n) (h1 : n ≤ 9223372036854775807) :
    Calls Tryz.prog 29 #[.int .i64 n] w fun e w' => e = .returned (.string c) ∧ Below w.heap.size w w' := by
  refine (ratInt_any n w hr h0 h1).mono ?_
  rintro e w' ⟨rfl, h⟩
  refine ⟨?_, h⟩
  rw [itoa_text, ← hc.1]

/-! ### the reference of natural numbers -/
/-- A natural number's text, or the error of one that is too long. -/
def outN (n : Nat) : List UInt8 × Nat := if maxD < Lib.nDigits n then ([], 5) else (Lib.decDigits n, 0)
def twoN (f : Nat → Nat → List UInt8 × Nat) (a b : List UInt8) : List UInt8 × Nat := if errN a ≠ 0 then ([], errN a) else if errN b ≠ 0 then ([], errN b) else f (dv a) (dv b)
set_option maxRecDepth 100000 in
theorem number_any (x : Nat) (vx : Value) (w : World) (hx : IsNatI w vx x) (hlx : (toL x).length ≤ 40000) :
    Calls Tryz.prog 88 #[vx] w fun e w' => e = .returned (resN (outN x)) ∧ Below w.heap.size w w' := by
  have HC := Lib.hid (rwrite_any x vx w hx hlx)
  have hs : (⟨(Lib.decDigits x).toArray⟩ : ByteArray).size = Lib.nDigits x := by
    rw [size_list]
    show (Lib.decDigits x).length = _
    rw [Lib.decDigits_length]
  obtain ⟨A, c, rfl, _, _, _⟩ := hx
  unfold outN resN maxD
  generalize hs0 : (⟨(Lib.decDigits x).toArray⟩ : ByteArray) = s at *
  have HS0 := Lib.hid hs0
  clear hs0
  by_cases h : 4000 < Lib.nDigits x
  · rw [if_pos h]
    have hd : decide ((4000 : Int) < (s.size : Int)) = true := decide_eq_true (by omega)
    clear h hs
    go_enter Tryz.func88, Tryz.ntmps88
    go_wp2_with (go_at_call 110; refine HC.out.mono ?_; rintro e w1 ⟨rfl, hb1⟩; have HB1 := Lib.hid hb1; clear hb1)
    refine bodyPost_ret (results_tmp2 rfl _ _ _) rfl ?_
    exact ⟨rfl, HB1.out⟩
  · rw [if_neg h]
    have hd : decide ((4000 : Int) < (s.size : Int)) = false := decide_eq_false (by omega)
    clear h hs
    go_enter Tryz.func88, Tryz.ntmps88
    go_wp2_with (go_at_call 110; refine HC.out.mono ?_; rintro e w1 ⟨rfl, hb1⟩; have HB1 := Lib.hid hb1; clear hb1)
    refine bodyPost_ret (results_tmp2 rfl _ _ _) rfl ?_
    exact ⟨by rw [← HS0.out]; rfl, HB1.out⟩
set_option maxRecDepth 100000 in
theorem bothN1_any (a b : ByteArray) (w : World) (ha : a.size ≤ 4000000000) (hb : b.size ≤ 4000000000) :
    Calls Tryz.prog 87 #[.string a, .string b] w fun e w' => e = .returned (.int .i64 ((if errN a.data.toList ≠ 0 then errN a.data.toList else errN b.data.toList : Nat) : Int)) ∧ w' = w := by
  have HA := Lib.hid (fun w => rcheck_any a w ha)
  have HB := Lib.hid (fun w => rcheck_any b w hb)
  generalize errN a.data.toList = x at *
  generalize errN b.data.toList = y at *
  have TK1 : True := trivial
  by_cases h : x = 0
  · subst h
    rw [if_neg (by omega)]
    go_enter Tryz.func87, Tryz.ntmps87
    go_wp2_with (first
      | (clear TK1; go_at_call 24; refine (HA.out _).mono ?_; rintro e w1 ⟨rfl, hw1⟩; subst hw1)
      | (go_at_call 24; refine (HB.out _).mono ?_; rintro e w1 ⟨rfl, hw1⟩; subst hw1))
    go_ret
    exact ⟨rfl, rfl⟩
  · rw [if_pos h]
    have hne : ((x : Int) == 0) = false := by rw [beq_eq_false_iff_ne]; omega
    clear h
    go_enter Tryz.func87, Tryz.ntmps87
    go_wp2_with (clear TK1; go_at_call 24; refine (HA.out _).mono ?_; rintro e w1 ⟨rfl, hw1⟩; subst hw1)
    go_ret
    exact ⟨rfl, rfl⟩
theorem errN_zero {l : List UInt8} (h : errN l = 0) : NForm l = true ∧ l.length ≤ 4000 := by
  unfold errN at h
  split at h
  · split at h
    · cases h
    · exact ⟨by assumption, by omega⟩
  · cases h
set_option maxRecDepth 100000 in
set_option maxHeartbeats 2000000 in
theorem rnMul_ok (a b : ByteArray) (w : World) (ha : errN a.data.toList = 0) (hb : errN b.data.toList = 0) :
    Calls Tryz.prog 30 #[.string a, .string b] w fun e w' => e = .returned (resN (outN (dv a.data.toList * dv b.data.toList))) ∧ Below w.heap.size w w' := by
  obtain ⟨fa, la⟩ := errN_zero ha
  obtain ⟨fb, lb⟩ := errN_zero hb
  have sa : a.size ≤ 270000 := by rw [size_list]; omega
  have sb : b.size ≤ 270000 := by rw [size_list]; omega
  have hx : True ∧ (toL (dv a.data.toList)).length ≤ 500 := ⟨trivial, limbs_of_form fa (by omega)⟩
  have hy : True ∧ (toL (dv b.data.toList)).length ≤ 500 := ⟨trivial, limbs_of_form fb (by omega)⟩
  have HBO := Lib.hid (bothN1_any a b w (by omega) (by omega))
  rw [ha, hb] at HBO
  have HRA := Lib.hid (fun w => rread_any a w (dg_of_form fa) sa)
  have HRB := Lib.hid (fun w => rread_any b w (dg_of_form fb) sb)
  clear fa fb ha hb la lb sa sb
  generalize dv a.data.toList = x at *
  generalize dv b.data.toList = y at *
  have hl : (toL (x * y)).length ≤ 40000 := Nat.le_trans (toL_mul_len _ _) (by omega)
  have HN := Lib.hid (fun v w h => number_any (x * y) v w h hl)
  generalize outN (x * y) = r at HN ⊢
  unfold resN at HN
  have HL := Lib.hid (And.intro hx.2 hy.2)
  clear hl hx hy
  have TK1 : True := trivial
  go_enter Tryz.func30, Tryz.ntmps30
  go_wp2_with (first
    | (go_at_call 87; refine HBO.out.mono ?_; rintro e w1 ⟨rfl, hw1⟩; subst hw1)
    | (clear TK1; go_at_call 90; refine (HRA.out _).mono ?_; rintro e w2 ⟨v2, rfl, hv2, hb2⟩; obtain ⟨A2, c2, rfl, _, _, _⟩ := id hv2; have HV2 := Lib.hid hv2; have HB2 := Lib.hid hb2; clear hv2 hb2)
    | (go_at_call 90; refine (HRB.out _).mono ?_; rintro e w3 ⟨v3, rfl, hv3, hb3⟩; obtain ⟨A3, c3, rfl, _, _, _⟩ := id hv3; have HV3 := Lib.hid hv3; have HV2 := Lib.hid (HV2.out.below hb3); have HB3 := Lib.hid (HB2.out.trans (hb3.mono HB2.out.size)); clear hv3 hb3)
    | (go_at_call 89; refine (rtimes_any x y _ _ _ HV2.out HV3.out (Nat.le_trans HL.out.1 (by omega)) (Nat.le_trans HL.out.2 (by omega))).mono ?_; rintro e w4 ⟨v4, rfl, hv4, hb4⟩; obtain ⟨A4, c4, rfl, _, _, _⟩ := id hv4; have HV4 := Lib.hid hv4; have HB4 := Lib.hid (HB3.out.trans (hb4.mono HB3.out.size)); clear hv4 hb4)
    | (go_at_call 88; refine (HN.out _ _ HV4.out).mono ?_; rintro e w5 ⟨rfl, hb5⟩; have HB5 := Lib.hid (HB4.out.trans (hb5.mono HB4.out.size)); clear hb5))
  refine bodyPost_ret (results_tmp2 rfl _ _ _) rfl ?_
  exact ⟨rfl, HB5.out⟩
set_option maxRecDepth 100000 in
set_option maxHeartbeats 2000000 in
theorem rnGcd_ok (a b : ByteArray) (w : World) (ha : errN a.data.toList = 0) (hb : errN b.data.toList = 0) :
    Calls Tryz.prog 31 #[.string a, .string b] w fun e w' => e = .returned (resN (outN ((dv a.data.toList).gcd (dv b.data.toList)))) ∧ Below w.heap.size w w' := by
  obtain ⟨fa, la⟩ := errN_zero ha
  obtain ⟨fb, lb⟩ := errN_zero hb
  have sa : a.size ≤ 270000 := by rw [size_list]; omega
  have sb : b.size ≤ 270000 := by rw [size_list]; omega
  have hx : True ∧ (toL (dv a.data.toList)).length ≤ 500 := ⟨trivial, limbs_of_form fa (by omega)⟩
  have hy : True ∧ (toL (dv b.data.toList)).length ≤ 500 := ⟨trivial, limbs_of_form fb (by omega)⟩
  have HBO := Lib.hid (bothN1_any a b w (by omega) (by omega))
  rw [ha, hb] at HBO
  have HRA := Lib.hid (fun w => rread_any a w (dg_of_form fa) sa)
  have HRB := Lib.hid (fun w => rread_any b w (dg_of_form fb) sb)
  clear fa fb ha hb la lb sa sb
  generalize dv a.data.toList = x at *
  generalize dv b.data.toList = y at *
  have hl : (toL (x.gcd y)).length ≤ 40000 := Nat.le_trans (gcd_limbs hx.2 hy.2) (by omega)
  have HN := Lib.hid (fun v w h => number_any (x.gcd y) v w h hl)
  generalize outN (x.gcd y) = r at HN ⊢
  unfold resN at HN
  have HL := Lib.hid (And.intro hx.2 hy.2)
  clear hl hx hy
  have TK1 : True := trivial
  go_enter Tryz.func31, Tryz.ntmps31
  go_wp2_with (first
    | (go_at_call 87; refine HBO.out.mono ?_; rintro e w1 ⟨rfl, hw1⟩; subst hw1)
    | (clear TK1; go_at_call 90; refine (HRA.out _).mono ?_; rintro e w2 ⟨v2, rfl, hv2, hb2⟩; obtain ⟨A2, c2, rfl, _, _, _⟩ := id hv2; have HV2 := Lib.hid hv2; have HB2 := Lib.hid hb2; clear hv2 hb2)
    | (go_at_call 90; refine (HRB.out _).mono ?_; rintro e w3 ⟨v3, rfl, hv3, hb3⟩; obtain ⟨A3, c3, rfl, _, _, _⟩ := id hv3; have HV3 := Lib.hid hv3; have HV2 := Lib.hid (HV2.out.below hb3); have HB3 := Lib.hid (HB2.out.trans (hb3.mono HB2.out.size)); clear hv3 hb3)
    | (go_at_call 91; refine (rcommon_any x y _ _ _ HV2.out HV3.out (Nat.le_trans HL.out.1 (by omega)) (Nat.le_trans HL.out.2 (by omega))).mono ?_; rintro e w4 ⟨v4, rfl, hv4, hb4⟩; obtain ⟨A4, c4, rfl, _, _, _⟩ := id hv4; have HV4 := Lib.hid hv4; have HB4 := Lib.hid (HB3.out.trans (hb4.mono HB3.out.size)); clear hv4 hb4)
    | (go_at_call 88; refine (HN.out _ _ HV4.out).mono ?_; rintro e w5 ⟨rfl, hb5⟩; have HB5 := Lib.hid (HB4.out.trans (hb5.mono HB4.out.size)); clear hb5))
  refine bodyPost_ret (results_tmp2 rfl _ _ _) rfl ?_
  exact ⟨rfl, HB5.out⟩
end Go.Proofs.YtjoifmnolmimkaaGreatDoor
