/- Distributions in plain rationals: Push, Product, moments, and what Make collects. No program in sight. Common denominators: how long sums of many numbers are. No program in sight. Losses and moments of distributions in plain rationals: groups, late outcomes, the conversion of moments. No program in sight. What the functions of chapter 8 compute on texts, as rationals. No program in sight. dist: Check, checked. dist: find and At, by the library's searches. dist: find, At, within. -/
import Derived.Test.YtigapglmipmbeaaGreatDoorRb10
namespace Go.Proofs.YtigapglmipmbeaaGreatDoor
open Lim

/-! ### Push -/
/-! ### what Make collects -/
/-! ### Product -/
/-! ### moments -/
end Go.Proofs.YtigapglmipmbeaaGreatDoor
namespace Go.Proofs.YtigapglmipmbeaaGreatDoor
open Lim

end Go.Proofs.YtigapglmipmbeaaGreatDoor
namespace Go.Proofs.YtigapglmipmbeaaGreatDoor
open Lim

/-! ### moments -/
end Go.Proofs.YtigapglmipmbeaaGreatDoor
namespace Go.Proofs.YtigapglmipmbeaaGreatDoor
open Lim

def ovT (q : Rat) : XE := if fits q then .ok (rT q) else .error 5
theorem exQ_out (q : Rat) : exQ (outQ q) = ovT q := by
  unfold ovT
  by_cases h : fits q = true
  · rw [if_pos h]
    unfold exQ
    rw [outQ_ok (fits_sz.1 h) (Nat.le_refl _)]
    rfl
  · rw [if_neg h]
    have h2 : maxD < Lib.nDigits (nm q) ∨ maxD < Lib.nDigits q.den := by
      unfold fits at h
      simp only [Bool.not_eq_true', decide_eq_false_iff_not, Decidable.not_not] at h
      exact h
    unfold exQ outQ
    rw [if_pos h2]
    rfl
theorem ok_rT {s : ByteArray} (h : errQ s.data.toList = 0) : s = rT (valQ s.data.toList) := (IsT.of h).text
theorem err_rT {q : Rat} (h : fits q = true) : errQ (rT q).data.toList = 0 := (isT_rT h).err
theorem val_rT {q : Rat} (h : fits q = true) : valQ (rT q).data.toList = q := (isT_rT h).val
theorem ovT_ok {q : Rat} {s : ByteArray} (h : ovT q = .ok s) : errQ s.data.toList = 0 ∧ valQ s.data.toList = q ∧ fits q = true := by
  unfold ovT at h
  split at h
  · rename_i hf; cases h; exact ⟨err_rT hf, val_rT hf, hf⟩
  · cases h
theorem ovT_fit {q : Rat} (h : fits q = true) : ovT q = .ok (rT q) := if_pos h
section
variable {a b : ByteArray} (ha : errQ a.data.toList = 0) (hb : errQ b.data.toList = 0)
include ha hb
theorem plX_val : plX a b = ovT (valQ a.data.toList + valQ b.data.toList) := by unfold plX; rw [two_T (IsT.of ha) (IsT.of hb), exQ_out]
theorem maxX_val : maxX a b = .ok (if cmpQ (valQ a.data.toList) (valQ b.data.toList) < 0 then b else a) := by
  unfold maxX
  rw [if_neg (by simpa using ha), if_neg (by simpa using hb)]
end
theorem powX_val {a : ByteArray} (ha : errQ a.data.toList = 0) (n : Nat) : powX a (n : Int) = ovT (valQ a.data.toList ^ n) := by
  unfold powX
  rw [one_T (IsT.of ha)]
  unfold powQ
  rw [if_neg (by omega), if_neg (by omega), exQ_out, Int.natAbs_natCast]
/-! ### valid lists -/
def valsD (ls : List L2) : DL := ls.map fun x => (x.1, valQ x.2.data.toList)
def OkV (ls : List L2) : Prop := ∀ x ∈ ls, errQ x.2.data.toList = 0
theorem keys_vals (ls : List L2) : keysD (valsD ls) = ls.map (·.1) := by unfold keysD valsD; rw [List.map_map]; rfl
theorem posE_zero {p : ByteArray} : posE p = 0 ↔ errQ p.data.toList = 0 ∧ 0 ≤ valQ p.data.toList := by
  unfold posE
  split
  · rename_i h; exact ⟨fun h2 => absurd h2 h, fun h2 => absurd h2.1 h⟩
  · rename_i h
    have h : errQ p.data.toList = 0 := Classical.byContradiction h
    split
    · rename_i h2; exact ⟨fun h3 => by omega, fun h3 => absurd h3.2 (by grind)⟩
    · rename_i h2; exact ⟨fun _ => ⟨h, by grind⟩, fun _ => rfl⟩
theorem ltK_iff {a b : ByteArray} : ltK a b = true ↔ a.data.toList < b.data.toList := by unfold ltK; exact decide_eq_true_iff
theorem ltK_trans {a b c : ByteArray} (h1 : ltK a b = true) (h2 : ltK b c = true) : ltK a c = true := ltK_iff.2 (List.lt_trans (ltK_iff.1 h1) (ltK_iff.1 h2))
theorem ltK_irrefl (a : ByteArray) : ltK a a = false := by
  cases h : ltK a a
  · rfl
  · exact absurd (ltK_iff.1 h) (List.lt_irrefl _)
theorem bytes_ext {a b : ByteArray} (h : a.data.toList = b.data.toList) : a = b := by
  cases a; cases b
  simp only [ByteArray.mk.injEq]
  exact Array.ext' h
theorem ltK_total {a b : ByteArray} (h : ltK a b = false) (hn : a ≠ b) : ltK b a = true := by
  refine ltK_iff.2 ?_
  have h1 : ¬ a.data.toList < b.data.toList := fun h2 => by rw [ltK_iff.2 h2] at h; cases h
  refine Classical.byContradiction fun h2 => ?_
  exact hn (bytes_ext (List.le_antisymm (List.not_lt.1 h2) (List.not_lt.1 h1)))
def Asc (ks : List ByteArray) : Prop := ks.Pairwise fun a b => ltK a b = true
theorem Asc.nodup {ks : List ByteArray} (h : Asc ks) : ks.Nodup := by
  refine List.Pairwise.imp ?_ h
  intro a b hab e
  subst e
  rw [ltK_irrefl] at hab
  cases hab
theorem chkL_zero : ∀ {ls : List L2} {k : Option ByteArray}, chkL k ls = 0 → (∀ x ∈ ls, errQ x.2.data.toList = 0 ∧ 0 < valQ x.2.data.toList) ∧ Asc (ls.map (·.1)) ∧ ∀ x ∈ ls, badK k x.1 = false
  | [], _, _ => ⟨fun x hx => (by cases hx), List.Pairwise.nil, fun x hx => (by cases hx)⟩
  | x :: l, k, h => by
    unfold chkL at h
    split at h
    · rename_i h1; exact absurd h h1
    · rename_i h1
      have h1 : posE x.2 = 0 := Classical.byContradiction h1
      split at h
      · cases h
      · rename_i h2
        have h2 : 0 < valQ x.2.data.toList := Classical.byContradiction h2
        split at h
        · cases h
        · rename_i h3
          have h3 : badK k x.1 = false := by simpa using h3
          obtain ⟨r1, r2, r3⟩ := chkL_zero h
          have r4 : ∀ y ∈ l, ltK x.1 y.1 = true := fun y hy => by simpa [badK] using r3 y hy
          refine ⟨fun y hy => ?_, ?_, fun y hy => ?_⟩
          · rcases List.mem_cons.1 hy with rfl | hy
            · exact ⟨(posE_zero.1 h1).1, h2⟩
            · exact r1 y hy
          · refine List.pairwise_cons.2 ⟨fun b hb => ?_, r2⟩
            obtain ⟨y, hy, rfl⟩ := List.mem_map.1 hb
            exact r4 y hy
          · rcases List.mem_cons.1 hy with rfl | hy
            · exact h3
            · cases k with
              | none => rfl
              | some k =>
                have h4 : ltK k x.1 = true := by simpa [badK] using h3
                simp only [badK, ltK_trans h4 (r4 y hy), Bool.not_true]
/-! ### sums -/
theorem foldX_val {α : Type} {g : α → XE} {v : α → Rat} : ∀ {l : List α} {s t : ByteArray}, foldX g s l = .ok t → errQ s.data.toList = 0 → (∀ x ∈ l, ∀ p, g x = .ok p → errQ p.data.toList = 0 ∧ valQ p.data.toList = v x) →
    errQ t.data.toList = 0 ∧ valQ t.data.toList = valQ s.data.toList + sumBy v l
  | [], s, t, h, hs, _ => by
    cases h
    exact ⟨hs, by simp only [sumBy]; grind⟩
  | x :: l, s, t, h, hs, hg => by
    unfold foldX at h
    cases hx : g x with
    | error n => rw [hx] at h; cases h
    | ok p =>
      rw [hx] at h
      obtain ⟨e1, e2⟩ := hg x (by simp) p hx
      dsimp only at h
      rw [plX_val hs e1] at h
      cases ha : ovT (valQ s.data.toList + valQ p.data.toList) with
      | error n => rw [ha] at h; cases h
      | ok u =>
        rw [ha] at h
        obtain ⟨e3, e4, _⟩ := ovT_ok ha
        obtain ⟨r1, r2⟩ := foldX_val h e3 fun y hy => hg y (by simp [hy])
        refine ⟨r1, ?_⟩
        rw [r2, e4, e2]
        simp only [sumBy]
        grind
theorem sum_vals (ls : List L2) : sumBy (fun e => e.2) (valsD ls) = sumBy (fun x : L2 => valQ x.2.data.toList) ls := by unfold valsD; rw [sumBy_map]
theorem foldX_ne {α : Type} {g : α → XE} (hg : ∀ x m, g x = .error m → m ≠ 0) : ∀ {l : List α} {s : ByteArray} {n : Nat}, foldX g s l = .error n → n ≠ 0
  | [], _, _, h => by cases h
  | x :: l, s, n, h => by
    unfold foldX at h
    cases hx : g x with
    | error m => rw [hx] at h; cases h; exact hg x _ hx
    | ok p =>
      rw [hx] at h
      dsimp only at h
      cases ha : plX s p with
      | error m => rw [ha] at h; cases h; exact exQ_err ha
      | ok u => rw [ha] at h; exact foldX_ne hg h
/-- A valid list is a distribution. -/
theorem chkD_zero {ls : List L2} (h : chkD ls = 0) : IsD (valsD ls) ∧ OkV ls ∧ Asc (ls.map (·.1)) := by
  unfold chkD at h
  split at h
  · rename_i h1; exact absurd h h1
  · rename_i h1
    have h1 : chkL none ls = 0 := Classical.byContradiction h1
    obtain ⟨r1, r2, _⟩ := chkL_zero h1
    cases hs : sumX zT ls with
    | error n =>
      rw [hs] at h
      exact absurd h (foldX_ne (fun x m hm => by cases hm) hs)
    | ok s =>
      rw [hs] at h
      unfold chkS at h
      dsimp only at h
      split at h
      · rename_i h2
        obtain ⟨e1, e2⟩ := foldX_val (v := fun x : L2 => valQ x.2.data.toList) hs err_zT (fun x hx p hp => by cases hp; exact ⟨(r1 x hx).1, rfl⟩)
        rw [h2, val_oT, val_zT, Rat.zero_add] at e2
        refine ⟨⟨by rw [keys_vals]; exact r2.nodup, fun e he => ?_, by rw [sum_vals, e2]⟩, fun x hx => (r1 x hx).1, r2⟩
        obtain ⟨x, hx, rfl⟩ := List.mem_map.1 he
        exact (r1 x hx).2
      · cases h
section
variable {α : Type} {f : α → Rat}
end
abbrev valX (x : L2) : Rat := valQ x.2.data.toList
/-! ### the probability of a key -/
theorem hasT_iff {k : ByteArray} : ∀ {ls : List L2}, hasT ls k = true ↔ k ∈ ls.map (·.1)
  | [] => by simp [hasT]
  | x :: l => by
    unfold hasT
    rw [List.map_cons, List.mem_cons]
    split
    · rename_i h; exact ⟨fun _ => .inl h.symm, fun _ => rfl⟩
    · rename_i h
      rw [hasT_iff]
      exact ⟨.inr, fun h2 => h2.resolve_left fun e => h e.symm⟩
theorem atT_none {k : ByteArray} : ∀ {ls : List L2}, k ∉ ls.map (·.1) → atT ls k = zT
  | [], _ => rfl
  | x :: l, h => by
    rw [List.map_cons, List.mem_cons, not_or] at h
    unfold atT
    rw [if_neg fun e => h.1 e.symm]
    exact atT_none h.2
theorem inX_iff {q : List L2} : ∀ {p : List L2}, inX p q = true ↔ ∀ x ∈ p, x.1 ∈ q.map (·.1)
  | [] => by simp [inX]
  | x :: l => by
    unfold inX
    split
    · rename_i h
      rw [inX_iff]
      simp only [List.mem_cons, forall_eq_or_imp]
      exact ⟨fun h2 => ⟨hasT_iff.1 h, h2⟩, fun h2 => h2.2⟩
    · rename_i h
      simp only [Bool.false_eq_true, List.mem_cons, forall_eq_or_imp, false_iff, not_and]
      exact fun h2 => absurd (hasT_iff.2 h2) h
end Go.Proofs.YtigapglmipmbeaaGreatDoor
namespace Go.Proofs.YtigapglmipmbeaaGreatDoor
open Go.RowKit Go.Shelf
open Lim

attribute [local go_sem] Oper.semAt_some

/-! ### Check -/
def keyAt (ls : List L2) : Nat → Option ByteArray
  | 0 => none
  | k + 1 => (ls[k]?).map (·.1)
theorem chkL_err {k : Option ByteArray} {x : L2} {l : List L2} (h : posE x.2 ≠ 0) : chkL k (x :: l) = posE x.2 := by unfold chkL; rw [if_pos h]
theorem chkL_low {k : Option ByteArray} {x : L2} {l : List L2} (h : posE x.2 = 0) (h2 : ¬ 0 < valQ x.2.data.toList) : chkL k (x :: l) = 2 := by unfold chkL; rw [if_neg (by simpa using h), if_pos h2]
theorem chkL_ord {k : Option ByteArray} {x : L2} {l : List L2} (h : posE x.2 = 0) (h2 : 0 < valQ x.2.data.toList) (h3 : badK k x.1 = true) : chkL k (x :: l) = 9 := by unfold chkL; rw [if_neg (by simpa using h), if_neg (by simpa using h2), if_pos h3]
theorem chkL_go {k : Option ByteArray} {x : L2} {l : List L2} (h : posE x.2 = 0) (h2 : 0 < valQ x.2.data.toList) (h3 : badK k x.1 = false) : chkL k (x :: l) = chkL (some x.1) l := by
  conv => lhs; unfold chkL
  rw [if_neg (by simpa using h), if_neg (by simpa using h2), if_neg (by rw [h3]; decide)]
theorem posB_ok {p : ByteArray} (h : posE p = 0) : posB p = decide (0 < valQ p.data.toList) := by
  unfold posB
  have : errQ p.data.toList = 0 := by
    unfold posE at h
    split at h
    · rename_i h2; exact absurd h h2
    · rename_i h2; exact Classical.byContradiction h2
  rw [decide_eq_true this, Bool.true_and]
theorem errs_of {ls : List L2} (h : chkL none ls = 0) : ∀ x ∈ ls, errQ x.2.data.toList = 0 := by
  revert h
  generalize (none : Option ByteArray) = k
  induction ls generalizing k with
  | nil => intro _ x hx; cases hx
  | cons y l ih =>
    intro h x hx
    by_cases h1 : posE y.2 = 0
    · by_cases h2 : 0 < valQ y.2.data.toList
      · cases h3 : badK k y.1 with
        | true => rw [chkL_ord h1 h2 h3] at h; cases h
        | false =>
          rw [chkL_go h1 h2 h3] at h
          rcases List.mem_cons.1 hx with rfl | hx
          · unfold posE at h1
            split at h1
            · rename_i h4; exact absurd h1 h4
            · rename_i h4; exact Classical.byContradiction h4
          · exact ih _ h x hx
      · rw [chkL_low h1 h2] at h; cases h
    · rw [chkL_err h1] at h; exact absurd h h1
theorem keyAt_succ {ls : List L2} {k : Nat} {x : L2} (h : ls[k]? = some x) : keyAt ls (k + 1) = some x.1 := by
  show (ls[k]?).map (·.1) = _
  rw [h]; rfl
theorem drop_of {ls : List L2} {k : Nat} {x : L2} (h : ls[k]? = some x) : ls.drop k = x :: ls.drop (k + 1) := by
  obtain ⟨hlt, e⟩ := List.getElem?_eq_some_iff.1 h
  rw [List.drop_eq_getElem_cons hlt, e]
theorem chkS_ok {s : ByteArray} : chkS (.ok s) = if s = oT then 0 else 15 := rfl
/-- A row's element's cells, at any later world. -/
theorem LRow.at {w W : World} {v : Value} {ls : List L2} (h : LRow w v ls) (hb : Below w.heap.size w W) {k : Nat} {x : L2} (hx : ls[k]? = some x) :
    ∃ b o c, v = .slice (some ⟨b, o, none⟩) ls.length c ∧ b < W.heap.size ∧ W.cell? ⟨b, o + k * 2, none⟩ = some (.string x.1) ∧ W.cell? ⟨b, o + k * 2 + 1, none⟩ = some (.string x.2) := by
  obtain ⟨A, c, rfl, _, hc⟩ := h
  obtain ⟨b, o, rfl, hlt, hcell⟩ := hc (by have := (List.getElem?_eq_some_iff.1 hx).1; omega)
  obtain ⟨c0, c1⟩ := hcell k x hx
  exact ⟨b, o, c, rfl, Nat.lt_of_lt_of_le hlt hb.size, by rw [hb.cell (p := ⟨b, o + k * 2, none⟩) hlt]; exact c0, by rw [hb.cell (p := ⟨b, o + k * 2 + 1, none⟩) hlt]; exact c1⟩
theorem LRow.cell2 {w W : World} {b o n c : Nat} {ls : List L2} (h : LRow w (.slice (some ⟨b, o, none⟩) n c) ls) (hb : Below w.heap.size w W) {k : Nat} {x : L2} (hx : ls[k]? = some x) :
    b < W.heap.size ∧ W.cell? ⟨b, o + k * 2, none⟩ = some (.string x.1) ∧ W.cell? ⟨b, o + k * 2 + 1, none⟩ = some (.string x.2) := by
  obtain ⟨b', o', c', e, h1, h2, h3⟩ := h.at hb hx
  simp only [Value.slice.injEq, Option.some.injEq, Addr.mk.injEq, and_true] at e
  obtain ⟨⟨rfl, rfl⟩, _, _⟩ := e
  exact ⟨h1, h2, h3⟩
set_option maxRecDepth 100000 in
set_option maxHeartbeats 8000000 in
/-- dist.Check. -/
theorem dcheck_any (ls : List L2) (v : Value) (w : World) (hv : LRow w v ls) (hs : Short ls) (hr : Res w) :
    Calls Tryz.prog 36 #[v] w fun e w' => e = .returned (.int .i64 (chkD ls : Int)) ∧ Below w.heap.size w w' := by
  have HV := Lib.hid hv
  obtain ⟨A, c, rfl, hlen, hcells⟩ := hv
  have HS := Lib.hid hs
  have H0 := Lib.hid (NW.refl hr)
  have HLEN := Lib.hid hlen
  have hrn := runs_check1
  unfold Runs at hrn
  clear hr hcells hs
  go_enter Tryz.func36, Tryz.ntmps36
  go_wp2
  go_loopw [11] (fun v11 wr => ∃ k : Nat, k ≤ ls.length ∧ v11 = .int .i64 (k : Int) ∧ Hid (chkL none ls = chkL (keyAt ls k) (ls.drop k)) ∧ Hid (NW w wr)) (fun v11 _ => ls.length - (intOf v11).toNat)
  case atStart => exact ⟨0, Nat.zero_le _, rfl, Lib.hid (by simp [keyAt]), H0⟩
  case round =>
    clear H0
    obtain ⟨k, hk, rfl, HE, HN⟩ := hrel
    by_cases hlt : k < ls.length
    · obtain ⟨x, hx⟩ : ∃ x, ls[k]? = some x := ⟨_, List.getElem?_eq_getElem hlt⟩
      obtain ⟨b, o, c', e', hb2, c0, c1⟩ := HV.out.at HN.out.below hx
      simp only [Value.slice.injEq, true_and] at e'
      obtain ⟨rfl, rfl⟩ := e'
      have hlt' : (k : Int) < (ls.length : Int) := by omega
      have HX := Lib.hid (HN.out.alloc (.cells #[.string x.1, .string x.2] 30))
      have HP := Lib.hid (positive_any (HS.out x (List.mem_of_getElem? hx)).2)
      have HD := Lib.hid (drop_of hx)
      have HLT := Lib.hid (And.intro hlt hlt')
      have HXK := Lib.hid hx
      have HBL := Lib.hid (Blk.new wr 30 #[.string x.1, .string x.2])
      obtain ⟨f, d⟩ := x
      dsimp only at c0 c1 HX HP HBL HD HXK
      clear hx hlt
      by_cases h1 : posE d = 0
      · rw [h1, posB_ok h1] at HP
        by_cases h2 : 0 < valQ d.data.toList
        · rw [decide_eq_true h2] at HP
          change Hid (Ret _ _ (.tuple #[.bool true, .int .i64 0])) at HP
          rcases Nat.eq_zero_or_pos k with hk0 | hk0
          · have HR := Lib.hid (show chkL none ls = chkL (keyAt ls (k + 1)) (ls.drop (k + 1)) by
              rw [HE.out, HD.out, keyAt_succ HXK.out, hk0]
              exact chkL_go (x := (f, d)) h1 h2 rfl)
            have d0 : decide (0 < (k : Int)) = false := decide_eq_false (by omega)
            have d0n : decide (0 < k) = false := decide_eq_false (by omega)
            clear h1 h2 hk0
            go_wp2_with (go_at_call 106; refine (HP.out _ HX.out.res).mono ?_; rintro e w3 ⟨rfl, hb⟩; have H3 := Lib.hid (HX.out.later hb); obtain ⟨q0, q1⟩ := cells2 (HBL.out.below hb HBL.out.lt); clear hb)
            go_quiet (fail)
            have H4 := Lib.hid (fun n => H3.out.drewN n)
            go_wp2
            go_roundw
            case rel => exact ⟨k + 1, HLT.out.1, by go_num, HR, H4.out _⟩
            case measure => have := HLT.out.1; simp [intOf]; omega
          · obtain ⟨j, hj⟩ : ∃ j, k = j + 1 := ⟨k - 1, by omega⟩
            have hjl : (j : Int) < (ls.length : Int) := by have := HLT.out.1; omega
            obtain ⟨y, hy⟩ : ∃ y, ls[j]? = some y := ⟨_, List.getElem?_eq_getElem (by omega)⟩
            have HCE := Lib.hid (fun W (hW : NW w W) => HV.out.cell2 hW.below hy)
            have e1 : (k : Int) - 1 = (j : Int) := by omega
            have d0 : decide (0 < (k : Int)) = true := decide_eq_true (by omega)
            have d0n : decide (0 < k) = true := decide_eq_true (by omega)
            have HKJ := Lib.hid hj
            clear hk0 hj
            cases h3 : ltK y.1 f with
            | true =>
              have HR := Lib.hid (show chkL none ls = chkL (keyAt ls (k + 1)) (ls.drop (k + 1)) by
                rw [HE.out, HD.out, keyAt_succ HXK.out, HKJ.out, keyAt_succ hy]
                exact chkL_go (x := (f, d)) h1 h2 (by show (!ltK y.1 f) = false; rw [h3]; rfl))
              have TL := lt_bytes y.1 f
              rw [h3] at TL
              clear h1 h2 h3 hy
              go_wp2_with (go_at_call 106; refine (HP.out _ HX.out.res).mono ?_; rintro e w3 ⟨rfl, hb⟩; have H3 := Lib.hid (HX.out.later hb); obtain ⟨q0, q1⟩ := cells2 (HBL.out.below hb HBL.out.lt); obtain ⟨hb3, p0, p1⟩ := HCE.out _ H3.out; clear hb)
              go_quiet (fail)
              have H4 := Lib.hid (fun n => H3.out.drewN n)
              go_wp2
              go_roundw
              case rel => exact ⟨k + 1, HLT.out.1, by go_num, HR, H4.out _⟩
              case measure => have := HLT.out.1; simp [intOf]; omega
            | false =>
              have HR := Lib.hid (show chkL none ls = 9 by
                rw [HE.out, HD.out, HKJ.out, keyAt_succ hy]
                exact chkL_ord (x := (f, d)) h1 h2 (by show (!ltK y.1 f) = true; rw [h3]; rfl))
              have TL := lt_bytes y.1 f
              rw [h3] at TL
              clear h1 h2 h3 hy
              go_wp2_with (go_at_call 106; refine (HP.out _ HX.out.res).mono ?_; rintro e w3 ⟨rfl, hb⟩; have H3 := Lib.hid (HX.out.later hb); obtain ⟨q0, q1⟩ := cells2 (HBL.out.below hb HBL.out.lt); obtain ⟨hb3, p0, p1⟩ := HCE.out _ H3.out; clear hb)
              go_quiet (fail)
              have H4 := Lib.hid (fun n => H3.out.drewN n)
              go_wp2
              go_ret
              refine ⟨?_, (H4.out _).below⟩
              unfold chkD
              rw [HR.out]
              rfl
        · rw [decide_eq_false h2] at HP
          change Hid (Ret _ _ (.tuple #[.bool false, .int .i64 0])) at HP
          have HR := Lib.hid (show chkL none ls = 2 by rw [HE.out, HD.out]; exact chkL_low (x := (f, d)) h1 h2)
          clear h1 h2
          go_wp2_with (go_at_call 106; refine (HP.out _ HX.out.res).mono ?_; rintro e w3 ⟨rfl, hb⟩; have H3 := Lib.hid (HX.out.later hb); clear hb)
          go_ret
          refine ⟨?_, H3.out.below⟩
          unfold chkD
          rw [HR.out]
          rfl
      · have HR := Lib.hid (show chkL none ls = posE d ∧ chkL none ls ≠ 0 by rw [HE.out, HD.out, chkL_err (x := (f, d)) h1]; exact ⟨rfl, h1⟩)
        have hm := ne_zero h1
        clear h1
        go_wp2_with (go_at_call 106; refine (HP.out _ HX.out.res).mono ?_; rintro e w3 ⟨rfl, hb⟩; have H3 := Lib.hid (HX.out.later hb); clear hb)
        go_ret
        refine ⟨?_, H3.out.below⟩
        unfold chkD
        rw [if_pos HR.out.2, HR.out.1]
        rfl
    · have hlt' : ¬ (k : Int) < (ls.length : Int) := by omega
      obtain rfl : k = ls.length := by omega
      have h0 : chkL none ls = 0 := by
        have := HE.out
        rw [List.drop_length] at this
        exact this
      have HQ := Lib.hid (show chkD ls = chkS (foldX (fun x : L2 => .ok x.2) zT ls) by unfold chkD; rw [h0]; rfl)
      have HF := Lib.hid (dfold_any 123 #[] runs_check1 (fun x : L2 => .ok x.2) ls _ wr (HV.out.below HN.out.below) HN.out.res (fun x n h => by cases h) (fun x hx s h => by cases h; exact errs_of h0 x hx) (fun k x _ W _ _ => check1_any x k W))
      clear h0 hlt hk
      cases hf : foldX (fun x : L2 => (.ok x.2 : XE)) zT ls with
      | error n =>
        rw [hf] at HF HQ
        have hm := ne_zero (foldX_ne (g := fun x : L2 => (.ok x.2 : XE)) (fun x m h => by cases h) hf)
        change Hid (Calls _ _ _ _ fun e w' => e = .returned (.tuple #[.string ⟨#[]⟩, .int .i64 (n : Int)]) ∧ _) at HF
        clear hf
        go_wp2_with (go_at_call 122; refine HF.out.mono ?_; rintro e w3 ⟨rfl, hb⟩; have H3 := Lib.hid (HN.out.later hb); clear hb)
        go_ret
        rw [HQ.out]
        exact ⟨rfl, H3.out.below⟩
      | ok s =>
        rw [hf] at HF HQ
        change Hid (Calls _ _ _ _ fun e w' => e = .returned (.tuple #[.string s, .int .i64 0]) ∧ _) at HF
        have TE := eq_bytes s oT
        rw [oT_list] at TE
        clear hf
        rw [chkS_ok] at HQ
        by_cases h1 : s = oT
        · rw [decide_eq_true h1] at TE
          rw [if_pos h1] at HQ
          clear h1
          go_wp2_with (go_at_call 122; refine HF.out.mono ?_; rintro e w3 ⟨rfl, hb⟩; have H3 := Lib.hid (HN.out.later hb); clear hb)
          go_ret
          rw [HQ.out]
          exact ⟨rfl, H3.out.below⟩
        · rw [decide_eq_false h1] at TE
          rw [if_neg h1] at HQ
          clear h1
          go_wp2_with (go_at_call 122; refine HF.out.mono ?_; rintro e w3 ⟨rfl, hb⟩; have H3 := Lib.hid (HN.out.later hb); clear hb)
          go_ret
          rw [HQ.out]
          exact ⟨rfl, H3.out.below⟩
set_option maxRecDepth 100000 in
set_option maxHeartbeats 4000000 in
/-- dist.checked, of two distributions. -/
theorem dchecked_any (p q : List L2) (vp vq : Value) (b : Nat) (w : World) (hb : Blk w b 31 #[vp, vq]) (hp : LRow w vp p) (hq : LRow w vq q) (sp : Short p) (sq : Short q) (hr : Res w) :
    Calls Tryz.prog 112 #[.slice (some ⟨b, 0, none⟩) 2 2] w fun e w' => e = .returned (.int .i64 (chk2 p q : Int)) ∧ Below w.heap.size w w' := by
  have HP := Lib.hid (dcheck_any p vp w hp sp hr)
  have HQ := Lib.hid (fun W (hW : Below w.heap.size w W) => dcheck_any q vq W (hq.below hW) sq (hr.below hW))
  have HB := Lib.hid (fun W (hW : Below w.heap.size w W) => cells2 (hb.below hW hb.lt))
  have HL := Lib.hid (fun W (hW : Below w.heap.size w W) => (hb.below hW hb.lt).lt)
  clear hp hq sp sq hr
  obtain ⟨x0, x1⟩ := HB.out w (Below.refl _ _)
  have xl := HL.out w (Below.refl _ _)
  go_enter Tryz.func112, Tryz.ntmps112
  go_wp2
  go_loopw [8] (fun v8 wr => ∃ k : Nat, k ≤ 2 ∧ v8 = .int .i64 (k : Int) ∧ Hid (0 < k → chkD p = 0) ∧ Hid (1 < k → chkD q = 0) ∧ Hid (Below w.heap.size w wr) ∧ Hid (k = 0 → wr = w)) (fun v8 _ => 2 - (intOf v8).toNat)
  case atStart => exact ⟨0, by omega, rfl, Lib.hid (fun h => by omega), Lib.hid (fun h => by omega), Lib.hid (Below.refl _ _), Lib.hid (fun _ => rfl)⟩
  case round =>
    clear x0 x1 xl
    obtain ⟨k, hk, rfl, H1, H2, HN, HW⟩ := hrel
    obtain ⟨x0, x1⟩ := HB.out wr HN.out
    have xl := HL.out wr HN.out
    rcases (by omega : k = 0 ∨ k = 1 ∨ k = 2) with rfl | rfl | rfl
    · obtain rfl := HW.out rfl
      by_cases h0 : chkD p = 0
      · have HR := Lib.hid h0
        rw [h0] at HP
        change Hid (Calls _ _ _ _ fun e w' => e = .returned (.int .i64 0) ∧ _) at HP
        clear h0
        go_wp2_with (go_at_call 36; refine HP.out.mono ?_; rintro e w3 ⟨rfl, hb⟩; have H3 := Lib.hid hb; clear hb)
        go_roundw
        case rel => exact ⟨1, by omega, by go_num, Lib.hid (fun _ => HR.out), Lib.hid (fun h => by omega), H3, Lib.hid (fun h => by omega)⟩
        case measure => simp [intOf]
      · have hm := ne_zero h0
        have HR := Lib.hid (show chk2 p q = chkD p from if_pos h0)
        clear h0
        go_wp2_with (go_at_call 36; refine HP.out.mono ?_; rintro e w3 ⟨rfl, hb⟩; have H3 := Lib.hid hb; clear hb)
        go_ret
        rw [HR.out]
        exact ⟨rfl, H3.out⟩
    · have h0 := H1.out (by omega)
      by_cases h1 : chkD q = 0
      · have HR := Lib.hid h1
        have HC := Lib.hid h0
        rw [h1] at HQ
        change Hid (∀ W, _ → Calls _ _ _ _ fun e w' => e = .returned (.int .i64 0) ∧ _) at HQ
        clear h0 h1
        go_wp2_with (go_at_call 36; refine (HQ.out _ HN.out).mono ?_; rintro e w3 ⟨rfl, hb⟩; have H3 := Lib.hid (HN.out.trans (hb.mono HN.out.size)); clear hb)
        go_roundw
        case rel => exact ⟨2, by omega, by go_num, Lib.hid (fun _ => HC.out), Lib.hid (fun _ => HR.out), H3, Lib.hid (fun h => by omega)⟩
        case measure => simp [intOf]
      · have hm := ne_zero h1
        have HR := Lib.hid (show chk2 p q = chkD q from if_neg (by simpa using h0))
        clear h0 h1
        go_wp2_with (go_at_call 36; refine (HQ.out _ HN.out).mono ?_; rintro e w3 ⟨rfl, hb⟩; have H3 := Lib.hid (HN.out.trans (hb.mono HN.out.size)); clear hb)
        go_ret
        rw [HR.out]
        exact ⟨rfl, H3.out⟩
    · have HR := Lib.hid (show chk2 p q = 0 by unfold chk2; rw [if_neg (by simpa using H1.out (by omega))]; exact H2.out (by omega))
      go_wp2
      go_ret
      rw [HR.out]
      exact ⟨rfl, HN.out⟩
end Go.Proofs.YtigapglmipmbeaaGreatDoor
namespace Go.Proofs.YtigapglmipmbeaaGreatDoor
open Go.RowKit Go.Shelf
open Lim

attribute [local go_sem] Oper.semAt_some

set_option maxRecDepth 100000 in
theorem isNaN_any (a : ByteArray) (w : World) : Calls Tryz.prog 259 #[.string a] w fun e w' => e = .returned (.bool false) ∧ w' = w := by
  have TE : (a.toList == a.toList) = true := beq_self_eq_true _
  go_enter Tryz.func259, Tryz.ntmps259
  go_wp2
  go_ret
  exact ⟨rfl, rfl⟩
def cmpK (a b : ByteArray) : Int := if ltK a b = true then -1 else if a = b then 0 else 1
set_option maxRecDepth 100000 in
set_option maxHeartbeats 2000000 in
theorem compareS_any (a b : ByteArray) (w : World) : Calls Tryz.prog 204 #[.string a, .string b] w fun e w' => e = .returned (.int .i64 (cmpK a b)) ∧ w' = w := by
  have TL := lt_bytes a b
  have TE := eq_bytes a b
  have TK : True := trivial
  cases h1 : ltK a b with
  | true =>
    have HR := Lib.hid (show cmpK a b = -1 from if_pos h1)
    rw [h1] at TL
    clear TE h1
    go_enter Tryz.func204, Tryz.ntmps204
    go_wp2_with (go_at_call 259; refine (isNaN_any _ _).mono ?_; rintro e w1 ⟨rfl, rfl⟩)
    go_ret
    rw [HR.out]
    exact ⟨rfl, rfl⟩
  | false =>
    rw [h1] at TL
    by_cases h2 : a = b
    · have HR := Lib.hid (show cmpK a b = 0 by unfold cmpK; rw [if_neg (by rw [h1]; decide), if_pos h2])
      rw [decide_eq_true h2] at TE
      clear h1 h2
      go_enter Tryz.func204, Tryz.ntmps204
      go_wp2_with (go_at_call 259; refine (isNaN_any _ _).mono ?_; rintro e w1 ⟨rfl, rfl⟩)
      go_ret
      rw [HR.out]
      exact ⟨rfl, rfl⟩
    · have HR := Lib.hid (show cmpK a b = 1 by unfold cmpK; rw [if_neg (by rw [h1]; decide), if_neg h2])
      rw [decide_eq_false h2] at TE
      clear h1 h2
      go_enter Tryz.func204, Tryz.ntmps204
      go_wp2_with (go_at_call 259; refine (isNaN_any _ _).mono ?_; rintro e w1 ⟨rfl, rfl⟩)
      go_ret
      rw [HR.out]
      exact ⟨rfl, rfl⟩
set_option maxRecDepth 100000 in
theorem find1_any (x : L2) (k : ByteArray) (w : World) : Calls Tryz.prog 203 #[.agg #[.string x.1, .string x.2], .string k] w fun e w' => e = .returned (.int .i64 (cmpK x.1 k)) ∧ Below w.heap.size w w' := by
  have H := Lib.hid (below_alloc (Below.refl w.heap.size w) (.cells #[.string x.1, .string x.2] 30))
  go_enter Tryz.func203, Tryz.ntmps203
  go_wp2_with (go_at_call 204; refine (compareS_any _ _ _).mono ?_; rintro e w1 ⟨rfl, rfl⟩)
  go_ret
  exact ⟨rfl, H.out⟩
theorem runs_find1 : Runs 203 := runs_of Tryz.func203 (by kernel_rfl) (by kernel_rfl)
theorem cmpK_lt (a b : ByteArray) : cmpK a b < 0 ↔ ltK a b = true := by
  unfold cmpK
  split
  · rename_i h; exact ⟨fun _ => h, fun _ => by omega⟩
  · rename_i h
    split <;> exact ⟨fun h2 => absurd h2 (by omega), fun h2 => absurd h2 h⟩
theorem cmpK_eq (a b : ByteArray) : cmpK a b = 0 ↔ ltK a b = false ∧ a = b := by
  unfold cmpK
  split
  · rename_i h; exact ⟨fun h2 => absurd h2 (by omega), fun h2 => by rw [h] at h2; cases h2.1⟩
  · rename_i h
    split
    · rename_i h3; exact ⟨fun _ => ⟨by simpa using h, h3⟩, fun _ => rfl⟩
    · rename_i h3; exact ⟨fun h2 => absurd h2 (by omega), fun h2 => absurd h2.2 h3⟩
/-- Keys in order. -/
def AscK (ls : List L2) : Prop := ∀ (i j : Nat) (x y : L2), i < j → ls[i]? = some x → ls[j]? = some y → ltK x.1 y.1 = true
/-- A key's place. -/
structure Place (ls : List L2) (k : ByteArray) (i : Nat) (b : Bool) : Prop where
  le : i ≤ ls.length
  has : b = true → ∃ x, ls[i]? = some x ∧ x.1 = k
  hasnt : b = false → ∀ x ∈ ls, x.1 ≠ k
set_option maxRecDepth 100000 in
set_option maxHeartbeats 8000000 in
theorem bsearch_any (F : FuncId) (hrun : Runs F) (hp : ∀ (x : L2) (k : ByteArray) (W : World), Calls Tryz.prog F #[.agg #[.string x.1, .string x.2], .string k] W fun e w' => e = .returned (.int .i64 (cmpK x.1 k)) ∧ Below W.heap.size W w') (ls : List L2) (v : Value) (k : ByteArray) (w : World) (hv : LRow w v ls) (hasc : AscK ls) (hirr : ∀ a, ltK a a = false) (htr : ∀ a b c, ltK a b = true → ltK b c = true → ltK a c = true) :
    Calls Tryz.prog 202 #[v, .string k, .func (.func F) #[] #[]] w fun e w' => ∃ (i : Nat) (b : Bool), e = .returned (.tuple #[.int .i64 (i : Int), .bool b]) ∧ Place ls k i b ∧ Below w.heap.size w w' := by
  obtain ⟨A, c, rfl, hlen, hcells⟩ := hv
  have HCE := Lib.hid hcells
  have HA := Lib.hid hasc
  have HI := Lib.hid hirr
  have HT := Lib.hid htr
  have H0 := Lib.hid (Below.refl w.heap.size w)
  have hrn := hrun
  unfold Runs at hrn
  have HPP := Lib.hid hp
  clear hcells hasc hirr htr hrun hp
  go_enter Tryz.func202, Tryz.ntmps202
  go_wp2
  go_loopw [9, 10] (fun v9 v10 wr => ∃ lo hi : Nat, v9 = .int .i64 (lo : Int) ∧ v10 = .int .i64 (hi : Int) ∧ lo ≤ hi ∧ hi ≤ ls.length ∧ Hid (Below w.heap.size w wr) ∧ Hid ((∀ t x, t < lo → ls[t]? = some x → ltK x.1 k = true) ∧ ∀ t x, hi ≤ t → ls[t]? = some x → ltK x.1 k = false))
    (fun v9 v10 _ => (intOf v10).toNat - (intOf v9).toNat)
  case atStart => exact ⟨0, ls.length, rfl, rfl, Nat.zero_le _, Nat.le_refl _, H0, Lib.hid ⟨fun t x h => absurd h (by omega), fun t x h hx => by
    rw [List.getElem?_eq_none h] at hx; cases hx⟩⟩
  case round =>
    clear H0
    obtain ⟨lo, hi, rfl, rfl, hlh, hin, HB, HE⟩ := hrel
    by_cases hlt : lo < hi
    · obtain ⟨b, o, rfl, hbw, hcell⟩ := HCE.out (by omega)
      have hm : (lo + hi) / 2 < ls.length := by omega
      obtain ⟨x, hx⟩ : ∃ x, ls[(lo + hi) / 2]? = some x := ⟨_, List.getElem?_eq_getElem hm⟩
      obtain ⟨c0, c1⟩ := hcell _ x hx
      rw [← HB.out.cell (p := ⟨b, o + (lo + hi) / 2 * 2, none⟩) hbw] at c0
      rw [← HB.out.cell (p := ⟨b, o + (lo + hi) / 2 * 2 + 1, none⟩) hbw] at c1
      have HX := Lib.hid hx
      have HF := Lib.hid (HPP.out x k wr)
      clear hcell hx hbw
      cases hc : ltK x.1 k with
      | true =>
        have d1 : decide (cmpK x.1 k < 0) = true := decide_eq_true ((cmpK_lt _ _).2 hc)
        have HC := Lib.hid hc
        clear hc
        generalize cmpK x.1 k = z at *
        obtain ⟨f, d⟩ := x
        dsimp only at c0 c1
        have HF2 := HF.out
        clear HF
        go_wp2
        refine HF2.mono ?_
        rintro e w3 ⟨rfl, hb⟩
        have H3 := Lib.hid (HB.out.trans (hb.mono HB.out.size))
        clear hb HF2
        go_wp2
        go_roundw
        case rel => exact ⟨(lo + hi) / 2 + 1, hi, by rw [show ((lo : Int) + (hi : Int)) / 2 + 1 = (((lo + hi) / 2 + 1 : Nat) : Int) by omega], rfl, by omega, hin, H3, Lib.hid ⟨fun t y ht hy => by
          rcases Nat.lt_or_ge t ((lo + hi) / 2) with h | h
          · exact HT.out _ _ _ (HA.out _ _ _ _ h hy HX.out) HC.out
          · obtain rfl : t = (lo + hi) / 2 := by omega
            rw [HX.out] at hy
            cases hy
            exact HC.out, HE.out.2⟩⟩
        case measure => simp [intOf]; omega
      | false =>
        have d1 : decide (cmpK x.1 k < 0) = false := decide_eq_false (fun h => by rw [(cmpK_lt _ _).1 h] at hc; cases hc)
        have HC := Lib.hid hc
        clear hc
        generalize cmpK x.1 k = z at *
        obtain ⟨f, d⟩ := x
        dsimp only at c0 c1
        have HF2 := HF.out
        clear HF
        go_wp2
        refine HF2.mono ?_
        rintro e w3 ⟨rfl, hb⟩
        have H3 := Lib.hid (HB.out.trans (hb.mono HB.out.size))
        clear hb HF2
        go_wp2
        go_roundw
        case rel => exact ⟨lo, (lo + hi) / 2, rfl, by rw [show ((lo : Int) + (hi : Int)) / 2 = (((lo + hi) / 2 : Nat) : Int) by omega], by omega, by omega, H3, Lib.hid ⟨HE.out.1, fun t y ht hy => by
          rcases Nat.lt_or_ge ((lo + hi) / 2) t with h | h
          · cases hn : ltK y.1 k
            · rfl
            · have := HT.out _ _ _ (HA.out _ _ _ _ h HX.out hy) hn
              rw [HC.out] at this
              cases this
          · obtain rfl : t = (lo + hi) / 2 := by omega
            rw [HX.out] at hy
            cases hy
            exact HC.out⟩⟩
        case measure => simp [intOf]; omega
    · obtain rfl : hi = lo := by omega
      by_cases hn : hi < ls.length
      · obtain ⟨b, o, rfl, hbw, hcell⟩ := HCE.out (by omega)
        obtain ⟨x, hx⟩ : ∃ x, ls[hi]? = some x := ⟨_, List.getElem?_eq_getElem hn⟩
        obtain ⟨c0, c1⟩ := hcell _ x hx
        rw [← HB.out.cell (p := ⟨b, o + hi * 2, none⟩) hbw] at c0
        rw [← HB.out.cell (p := ⟨b, o + hi * 2 + 1, none⟩) hbw] at c1
        have HX := Lib.hid hx
        have HF := Lib.hid (HPP.out x k wr)
        have hn' : (hi : Int) < (ls.length : Int) := by omega
        have HIN := Lib.hid hin
        clear hcell hx hbw
        cases hc : (cmpK x.1 k == 0) with
        | true =>
          have HC := Lib.hid ((cmpK_eq x.1 k).1 (by simpa using hc)).2
          have HG := Lib.hid (show Place ls k hi true from ⟨hin, fun _ => ⟨x, HX.out, HC.out⟩, fun h => by cases h⟩)
          generalize cmpK x.1 k = z at *
          obtain ⟨f, d⟩ := x
          dsimp only at c0 c1
          have HF2 := HF.out
          clear HF hn hin hlt
          go_wp2
          refine HF2.mono ?_
          rintro e w3 ⟨rfl, hb⟩
          have H3 := Lib.hid (HB.out.trans (hb.mono HB.out.size))
          clear hb HF2
          go_wp2
          go_ret2
          exact ⟨hi, true, rfl, HG.out, H3.out⟩
        | false =>
          have HG := Lib.hid (show Place ls k hi false from ⟨hin, (fun h => by cases h), fun _ y hy e => by
            obtain ⟨t, ht⟩ := List.getElem?_of_mem hy
            have hxl := HE.out.2 hi x (Nat.le_refl _) HX.out
            rcases Nat.lt_or_ge t hi with h | h
            · have := HE.out.1 t y h ht
              rw [e, HI.out] at this
              cases this
            · rcases Nat.eq_or_lt_of_le h with h | h
              · subst h
                rw [HX.out] at ht
                cases ht
                have : cmpK x.1 k = 0 := (cmpK_eq _ _).2 ⟨hxl, e⟩
                rw [this] at hc
                cases hc
              · have := HA.out _ _ _ _ h HX.out ht
                rw [e, hxl] at this
                cases this⟩)
          generalize cmpK x.1 k = z at *
          obtain ⟨f, d⟩ := x
          dsimp only at c0 c1
          have HF2 := HF.out
          clear HF hn hin hlt
          go_wp2
          refine HF2.mono ?_
          rintro e w3 ⟨rfl, hb⟩
          have H3 := Lib.hid (HB.out.trans (hb.mono HB.out.size))
          clear hb HF2
          go_wp2
          go_ret2
          exact ⟨hi, false, rfl, HG.out, H3.out⟩
      · have hn' : ¬ (hi : Int) < (ls.length : Int) := by omega
        have HG := Lib.hid (show Place ls k hi false from ⟨hin, (fun h => by cases h), fun _ y hy e => by
          obtain ⟨t, ht⟩ := List.getElem?_of_mem hy
          have htl : t < ls.length := (List.getElem?_eq_some_iff.1 ht).1
          have := HE.out.1 t y (by omega) ht
          rw [e, HI.out] at this
          cases this⟩)
        clear hn hin hlt
        go_wp2
        go_ret2
        first
          | exact ⟨hi, false, rfl, HG.out, HB.out⟩
          | exact ⟨hi, .inl ⟨rfl, HG.out, HB.out⟩⟩
          | exact ⟨rfl, HG.out, HB.out⟩
end Go.Proofs.YtigapglmipmbeaaGreatDoor
namespace Go.Proofs.YtigapglmipmbeaaGreatDoor
open Go.RowKit Go.Shelf
open Lim

attribute [local go_sem] Oper.semAt_some

theorem atT_at {key : ByteArray} : ∀ {ls : List L2} {i : Nat} {x : L2}, AscK ls → (∀ a, ltK a a = false) → ls[i]? = some x → x.1 = key → atT ls key = x.2 ∧ hasT ls key = true
  | [], i, x, _, _, h, _ => by simp at h
  | y :: l, 0, x, _, _, h, e => by
    simp only [List.getElem?_cons_zero, Option.some.injEq] at h
    subst h
    unfold atT hasT
    rw [if_pos e, if_pos e]
    exact ⟨rfl, rfl⟩
  | y :: l, i + 1, x, ha, hi, h, e => by
    have h2 : l[i]? = some x := by simpa using h
    have hlt := ha 0 (i + 1) y x (by omega) (by simp) h
    have hne : y.1 ≠ key := fun e2 => by rw [e2, ← e, hi] at hlt; cases hlt
    unfold atT hasT
    rw [if_neg hne, if_neg hne]
    exact atT_at (fun a b u v hab hu hv => ha (a + 1) (b + 1) u v (by omega) (by simpa using hu) (by simpa using hv)) hi h2 e
theorem ltK_irr (a : ByteArray) : ltK a a = false := decide_eq_false (List.lt_irrefl _)
theorem ltK_tr (a b c : ByteArray) (h1 : ltK a b = true) (h2 : ltK b c = true) : ltK a c = true := decide_eq_true (List.lt_trans (of_decide_eq_true h1) (of_decide_eq_true h2))
theorem Place.eqb {ls : List L2} {k : ByteArray} {i : Nat} {b : Bool} (h : Place ls k i b) : b = hasT ls k := by
  cases b with
  | true =>
    obtain ⟨x, hx, hk⟩ := h.has rfl
    exact (hasT_iff.2 (hk ▸ List.mem_map_of_mem (f := (·.1)) (List.mem_of_getElem? hx))).symm
  | false =>
    cases hh : hasT ls k with
    | false => rfl
    | true =>
      obtain ⟨x, hx, hk⟩ := List.mem_map.1 (hasT_iff.1 hh)
      exact absurd hk (h.hasnt rfl x hx)
set_option maxRecDepth 100000 in
set_option maxHeartbeats 2000000 in
/-- dist.find, of a list in order. -/
theorem dfind_any (ls : List L2) (v : Value) (k : ByteArray) (w : World) (hv : LRow w v ls) (hasc : AscK ls) :
    Calls Tryz.prog 129 #[v, .string k] w fun e w' => e = .returned (.tuple #[.string (atT ls k), .bool (hasT ls k)]) ∧ Below w.heap.size w w' := by
  have HB := Lib.hid (bsearch_any 203 runs_find1 (fun x k W => find1_any x k W) ls v k w hv hasc ltK_irr ltK_tr)
  have HV := Lib.hid hv
  obtain ⟨A, c, rfl, hlen, hcells⟩ := hv
  have HA := Lib.hid hasc
  clear hcells hasc
  cases hh : hasT ls k with
  | false =>
    have HR := Lib.hid (show atT ls k = zT from atT_none fun h => by rw [hasT_iff.2 h] at hh; cases hh)
    have HH := Lib.hid hh
    clear hh
    go_enter Tryz.func129, Tryz.ntmps129
    go_wp2_with (go_at_call 202; refine HB.out.mono ?_; rintro e w1 ⟨i, bb, rfl, hp, hb⟩; obtain rfl : bb = false := (hp.eqb.trans HH.out); have H1 := Lib.hid hb; clear hp hb)
    go_ret2
    rw [HR.out]
    exact ⟨rfl, H1.out⟩
  | true =>
    have HH := Lib.hid hh
    clear hh
    go_enter Tryz.func129, Tryz.ntmps129
    go_wp2_with (go_at_call 202; refine HB.out.mono ?_; rintro e w1 ⟨i, bb, rfl, hp, hb⟩; obtain rfl : bb = true := (hp.eqb.trans HH.out); obtain ⟨x, hx, hk⟩ := hp.has rfl; have HR := Lib.hid (atT_at HA.out ltK_irr hx hk).1; obtain ⟨b, o, c', e', hb2, c0, c1⟩ := HV.out.at hb hx; simp only [Value.slice.injEq, true_and] at e'; obtain ⟨rfl, rfl⟩ := e'; have hlt : (i : Int) < (ls.length : Int) := (by have := (List.getElem?_eq_some_iff.1 hx).1; omega); have H1 := Lib.hid hb; clear hp hb hx hk)
    go_ret2
    rw [HR.out]
    exact ⟨rfl, H1.out⟩
def idxP (p : L2 → Bool) : Nat → List L2 → Int
  | _, [] => -1
  | n, x :: l => if p x = true then (n : Int) else idxP p (n + 1) l
theorem idxP_hit {p : L2 → Bool} {n : Nat} {x : L2} {l : List L2} (h : p x = true) : idxP p n (x :: l) = (n : Int) := if_pos h
theorem idxP_miss {p : L2 → Bool} {n : Nat} {x : L2} {l : List L2} (h : p x = false) : idxP p n (x :: l) = idxP p (n + 1) l := if_neg (by rw [h]; decide)
set_option maxRecDepth 100000 in
set_option maxHeartbeats 8000000 in
/-- slices.IndexFunc, of a predicate that lays new memory alone. -/
theorem indexF_any (F : FuncId) (cb : Array Value) (hrun : Runs F) (p : L2 → Bool) (ls : List L2) (v : Value) (w : World) (hv : LRow w v ls) (hr : Res w)
    (hp : ∀ x ∈ ls, ∀ W, Below w.heap.size w W → Res W → Calls Tryz.prog F (#[.agg #[.string x.1, .string x.2]] ++ cb) W fun e W' => e = .returned (.bool (p x)) ∧ Below W.heap.size W W') :
    Calls Tryz.prog 124 #[v, .func (.func F) #[] cb] w fun e w' => e = .returned (.int .i64 (idxP p 0 ls)) ∧ Below w.heap.size w w' := by
  obtain ⟨A, c, rfl, hlen, hcells⟩ := hv
  have HCE := Lib.hid hcells
  have HP := Lib.hid hp
  have H0 := Lib.hid (NW.refl hr)
  have hrn := hrun
  unfold Runs at hrn
  clear hr hcells hp hrun
  go_enter Tryz.func124, Tryz.ntmps124
  go_wp2
  go_loopw [8] (fun v8 wr => ∃ k : Nat, k ≤ ls.length ∧ v8 = .int .i64 (k : Int) ∧ Hid (idxP p 0 ls = idxP p k (ls.drop k)) ∧ Hid (NW w wr)) (fun v8 _ => ls.length - (intOf v8).toNat)
  case atStart => exact ⟨0, Nat.zero_le _, rfl, Lib.hid (by simp), H0⟩
  case round =>
    clear H0
    obtain ⟨k, hk, rfl, HE, HN⟩ := hrel
    by_cases hlt : k < ls.length
    · obtain ⟨b, o, rfl, hbw, hcell⟩ := HCE.out (by omega)
      obtain ⟨x, hx⟩ : ∃ x, ls[k]? = some x := ⟨_, List.getElem?_eq_getElem hlt⟩
      obtain ⟨c0, c1⟩ := hcell k x hx
      rw [← HN.out.below.cell (p := ⟨b, o + k * 2, none⟩) hbw] at c0
      rw [← HN.out.below.cell (p := ⟨b, o + k * 2 + 1, none⟩) hbw] at c1
      have hlt' : (k : Int) < (ls.length : Int) := by omega
      have HF := Lib.hid (HP.out x (List.mem_of_getElem? hx) wr HN.out.below HN.out.res)
      have HD := Lib.hid (show ls.drop k = x :: ls.drop (k + 1) by
        rw [List.drop_eq_getElem_cons hlt]
        rw [List.getElem?_eq_getElem hlt] at hx
        cases hx
        rfl)
      have HLT := Lib.hid (And.intro hlt hlt')
      obtain ⟨f, d⟩ := x
      dsimp only at c0 c1 HF
      clear hcell hx hbw hlt
      cases hpx : p (f, d) with
      | true =>
        have HR := Lib.hid (show idxP p 0 ls = (k : Int) by rw [HE.out, HD.out, idxP_hit hpx])
        rw [hpx] at HF
        have HF2 := HF.out
        clear HF hpx
        go_wp2
        refine HF2.mono ?_
        rintro e w3 ⟨rfl, hb⟩
        have H3 := Lib.hid (HN.out.later hb)
        clear hb HF2
        go_wp2
        go_ret
        rw [HR.out]
        exact ⟨rfl, H3.out.below⟩
      | false =>
        have HR := Lib.hid (show idxP p 0 ls = idxP p (k + 1) (ls.drop (k + 1)) by rw [HE.out, HD.out, idxP_miss hpx])
        rw [hpx] at HF
        have HF2 := HF.out
        clear HF hpx
        go_wp2
        refine HF2.mono ?_
        rintro e w3 ⟨rfl, hb⟩
        have H3 := Lib.hid (HN.out.later hb)
        clear hb HF2
        go_wp2
        go_roundw
        case rel => exact ⟨k + 1, HLT.out.1, by go_num, HR, H3⟩
        case measure => have := HLT.out.1; simp [intOf]; omega
    · have hlt' : ¬ (k : Int) < (ls.length : Int) := by omega
      obtain rfl : k = ls.length := by omega
      have HR := Lib.hid (show idxP p 0 ls = -1 by
        have := HE.out
        rw [List.drop_length] at this
        exact this)
      clear hlt
      go_wp2
      go_ret
      rw [HR.out]
      exact ⟨rfl, HN.out.below⟩
theorem ascK_of {ls : List L2} (h : Asc (ls.map (·.1))) : AscK ls := by
  intro i j x y hij hx hy
  unfold Asc at h
  rw [List.pairwise_iff_getElem] at h
  obtain ⟨h1, e1⟩ := List.getElem?_eq_some_iff.1 hx
  obtain ⟨h2, e2⟩ := List.getElem?_eq_some_iff.1 hy
  have := h i j (by simpa using h1) (by simpa using h2) hij
  simp only [List.getElem_map] at this
  rwa [e1, e2] at this
theorem ascK_chk {ls : List L2} (h : chkD ls = 0) : AscK ls := ascK_of (chkD_zero h).2.2
/-! ### within -/
theorem idxP_ge {p : L2 → Bool} : ∀ {ls : List L2} {n : Nat}, decide (0 ≤ idxP p n ls) = ls.any p
  | [], n => by unfold idxP; rfl
  | x :: l, n => by
    cases hp : p x with
    | true =>
      rw [idxP_hit hp, List.any_cons, hp, Bool.true_or]
      exact decide_eq_true (by omega)
    | false =>
      rw [idxP_miss hp, List.any_cons, hp, Bool.false_or]
      exact idxP_ge
theorem inX_any {q : List L2} : ∀ {p : List L2}, (!p.any fun x => !hasT q x.1) = inX p q
  | [] => rfl
  | x :: l => by
    unfold inX
    rw [List.any_cons]
    cases h : hasT q x.1 with
    | true =>
      rw [if_pos rfl, ← inX_any (p := l)]
      rfl
    | false => rw [if_neg (by decide)]; rfl
theorem runs_within1 : Runs 209 := runs_of Tryz.func209 (by kernel_rfl) (by kernel_rfl)
set_option maxRecDepth 100000 in
theorem within1_any (x : L2) (g : Nat) (ls : List L2) (v : Value) (w : World) (hg : Blk w g 31 #[v]) (hv : LRow w v ls) (hasc : AscK ls) :
    Calls Tryz.prog 209 #[.agg #[.string x.1, .string x.2], .pointer (some ⟨g, 0, none⟩)] w fun e w' => e = .returned (.bool (!hasT ls x.1)) ∧ Below w.heap.size w w' := by
  have HX := Lib.hid (below_alloc (Below.refl w.heap.size w) (.cells #[.string x.1, .string x.2] 30))
  have HF := Lib.hid (dfind_any ls v x.1 _ (hv.below HX.out) hasc)
  have hg2 := hg.below HX.out hg.lt
  have c0 : (w.alloc (.cells #[.string x.1, .string x.2] 30)).cell? ⟨g, 0, none⟩ = some v := by rw [hg2.cell]; rfl
  have gl := hg2.lt
  clear hv hg hg2
  obtain ⟨f, d⟩ := x
  dsimp only at HX HF c0 gl
  go_enter Tryz.func209, Tryz.ntmps209
  cases hh : hasT ls f with
  | true =>
    rw [hh] at HF
    go_wp2_with (go_at_call 129; refine HF.out.mono ?_; rintro e w3 ⟨rfl, hb⟩; have H3 := Lib.hid (HX.out.trans (hb.mono HX.out.size)); clear hb)
    go_ret
    exact ⟨rfl, H3.out⟩
  | false =>
    rw [hh] at HF
    go_wp2_with (go_at_call 129; refine HF.out.mono ?_; rintro e w3 ⟨rfl, hb⟩; have H3 := Lib.hid (HX.out.trans (hb.mono HX.out.size)); clear hb)
    go_ret
    exact ⟨rfl, H3.out⟩
set_option maxRecDepth 100000 in
theorem containsF_any (F : FuncId) (cb : Array Value) (v : Value) (z : Int) (w : World)
    (HI : Hid (Calls Tryz.prog 124 #[v, .func (.func F) #[] cb] w fun e w' => e = .returned (.int .i64 z) ∧ Below w.heap.size w w')) :
    Calls Tryz.prog 208 #[v, .func (.func F) #[] cb] w fun e w' => e = .returned (.bool (decide (0 ≤ z))) ∧ Below w.heap.size w w' := by
  go_enter Tryz.func208, Tryz.ntmps208
  go_wp2_with (go_at_call 124; refine HI.out.mono ?_; rintro e w3 ⟨rfl, hb⟩; have H3 := Lib.hid hb; clear hb)
  go_ret
  exact ⟨rfl, H3.out⟩
set_option maxRecDepth 100000 in
/-- dist.within. -/
theorem dwithin_any (p q : List L2) (vp vq : Value) (w : World) (hp : LRow w vp p) (hq : LRow w vq q) (hasc : AscK q) (hr : Res w) :
    Calls Tryz.prog 132 #[vp, vq] w fun e w' => e = .returned (.bool (inX p q)) ∧ Below w.heap.size w w' := by
  obtain ⟨A, c, rfl, _, _⟩ := id hp
  obtain ⟨A', c', rfl, _, _⟩ := id hq
  have HX := Lib.hid (below_alloc (Below.refl w.heap.size w) (.cells #[.slice A' q.length c'] 31))
  have hbk := Blk.new w 31 #[.slice A' q.length c']
  have HI := indexF_any 209 #[.pointer (some ⟨w.heap.size, 0, none⟩)] runs_within1 (fun x => !hasT q x.1) p _ _ (hp.below HX.out) (hr.below HX.out) (fun x _ W hW _ =>
    within1_any x w.heap.size q _ W (hbk.below hW hbk.lt) (hq.below (HX.out.trans (hW.mono HX.out.size))) hasc)
  have HC := Lib.hid (containsF_any _ _ _ _ _ (Lib.hid HI))
  rw [idxP_ge] at HC
  have HE := Lib.hid (inX_any (p := p) (q := q))
  clear HI hbk hp hq hasc hr
  go_enter Tryz.func132, Tryz.ntmps132
  go_wp2_with (go_at_call 208; go_loud (refine HC.out.mono ?_; rintro e w3 ⟨rfl, hb⟩; have H3 := Lib.hid (HX.out.trans (hb.mono HX.out.size)); clear hb))
  go_ret
  rw [← HE.out]
  exact ⟨rfl, H3.out⟩
/-! ### At -/
end Go.Proofs.YtigapglmipmbeaaGreatDoor
