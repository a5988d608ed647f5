/- Each function of chapter 10 and its reference return the same, errors included, for texts of 120 bytes. What the statements of chapter 10 share: light, factor, least, lives; a law's world. Texts of given numbers, by reckoning; the examples of losses in plain rationals. The examples that each statement of chapter 10 asks first (printed by mkmlaws.py). The statements' Pick. A region that draws its order and only reads and calls what lays blocks of its own: one walk. A long region's order check, reckoned without an array of what has come: quick for the kernel. Facts for the statements of chapter 10: rows of curves, equal curves (printed by mkmlaws.py). -/
import Derived.Test.YtbfhonhjejeaiaaGreatDoorRb17
import Derived.Test.YtbfhonhjejeaiaaGreatDoorRb13
import Derived.Test.YtbfhonhjejeaiaaGreatDoorRb10
import Derived.Test.YtbfhonhjejeaiaaGreatDoorRb01
import Derived.BigQuiet
import Derived.Below
namespace Go.Proofs.YtbfhonhjejeaiaaGreatDoor
open Go.RowKit Go.Shelf
open Lim

section
variable {F L : ByteArray} {f l : Rat}
/-! ### Of -/
theorem errOf_ok (hF : IsT F f) (h1 : 1 ≤ f) (hL : IsT L l) (h0 : 0 ≤ l) (ht : l ≤ 1) : errOf F L = 0 := by
  unfold errOf
  rw [if_neg (by rw [hF.err]; decide), if_neg (by rw [hL.err]; decide), if_neg]
  rintro (h | h)
  · rw [hF.val, cmpQ_lt] at h; grind
  · exact h (errU_zero.2 (by rw [hL.val]; exact ⟨h0, ht⟩))
theorem mofE (hF : F.size ≤ 270000) (hL : L.size ≤ 270000) (he : errOf F L ≠ 0) : Ret 47 #[.string F, .string L] (.tuple #[cv zC, .int .i64 (errOf F L : Int)]) := fun w hr => by
  have h := mof_walk F L ⟨#[]⟩ zC zC zC (lastT L) w hF hL hr rfl (Lib.hid fun h => absurd h he) (Lib.hid fun h => absurd h he) (Lib.hid fun h => absurd h he) (Lib.hid fun h => absurd h he) (Lib.hid fun h => absurd h he)
  rw [ofRes_no _ he] at h
  exact h
theorem mx4 {j : Nat} {q : Rat} (h : Sz j q) (hj : j ≤ 4000) : IsT (rT q) q := isT_rT (fits_sz.2 (h.mono hj))
theorem ofM_is (sf : Sz 120 f) (hL : IsT L l) (sl : Sz 120 l) {i : Nat} (hi : i < 7) : IsT (txt (ofM f l) i) ((ofX f i + ofY f i) * (f + 1)⁻¹) := by
  have h := sz_ofM sf sl (by omega) i (by omega)
  have e : txt (ofM f l) i = rT ((ofX f i + ofY f i) * (f + 1)⁻¹) := by show rT (ofM f l i) = _; rw [ofM_i f l hi]
  rw [e]
  rw [ofM_i f l hi] at h
  exact mx4 h (by have := hL.size; omega)
theorem ofM_last (hL : IsT L l) : txt (ofM f l) 7 = L := by
  rw [hL.text]
  show rT (ofM f l 7) = _
  rw [show ofM f l 7 = l from if_pos rfl]
theorem mofV (hF : IsT F f) (sf : Sz 120 f) (h1 : 1 ≤ f) (hL : IsT L l) (sl : Sz 120 l) (h0 : 0 ≤ l) (ht : l ≤ 1) : Ret 47 #[.string F, .string L] (.tuple #[cv (txt (ofM f l)), .int .i64 0]) := fun w hr => by
  have he := errOf_ok hF h1 hL h0 ht
  have iN : IsT (rT (f + 1)) (f + 1) := mx4 (sz_next sf) (by omega)
  have iX : ∀ i : Nat, i < 7 → IsT (rT (ofX f i)) (ofX f i) := fun i hi => mx4 (sz_ofX sf hi) (by omega)
  have iY : ∀ i : Nat, i < 7 → IsT (rT (ofY f i)) (ofY f i) := fun i hi => mx4 (sz_ofY sf hi) (by omega)
  have iS : ∀ i : Nat, i < 7 → IsT (rT (ofX f i + ofY f i)) (ofX f i + ofY f i) := fun i hi => mx4 (sz_ofS sf hi) (by omega)
  have ey : ∀ i : Nat, (1 : Int) - ((i : Int) + 2) = -1 - (i : Int) := fun i => by omega
  have h := mof_walk F L (rT (f + 1)) (fun i => rT (ofX f i)) (fun i => rT (ofY f i)) (fun i => rT (ofX f i + ofY f i)) (txt (ofM f l)) w hF.size hL.size hr (ofM_last hL)
    (Lib.hid fun _ => isAdd hF IsT.one iN) (Lib.hid fun _ i hi => isPow hF (ne_of_one h1) (iX i hi) (by omega) (by omega)) (Lib.hid fun _ i hi => by rw [ey]; exact isPow hF (ne_of_one h1) (iY i hi) (by omega) (by omega))
    (Lib.hid fun _ i hi => isAdd (iX i hi) (iY i hi) (iS i hi)) (Lib.hid fun _ i hi => isDiv (iS i hi) iN (ofM_is sf hL sl hi) (next_ne h1))
  rw [he, ofRes_ok] at h
  exact h
end
section
variable {a b c : CT}
end
end Go.Proofs.YtbfhonhjejeaiaaGreatDoor
namespace Go.Proofs.YtbfhonhjejeaiaaGreatDoor
open Go.RowKit Go.Shelf
open Lim

/-- A law's world: blocks that hold, new memory alone besides, the tables. -/
structure LW (w : World) (L : List (Nat × TypeId × Array Value)) (W : World) : Prop where
  held : ∀ x ∈ L, Blk W x.1 x.2.1 x.2.2
  below : Below w.heap.size w W
  res : Res W
theorem LW.nil {w : World} (hr : Res w) : LW w [] w := ⟨fun _ hx => absurd hx (by simp), Below.refl _ _, hr⟩
theorem LW.later {w W W' : World} {L : List (Nat × TypeId × Array Value)} (h : LW w L W) (hb : Below W.heap.size W W') : LW w L W' :=
  ⟨fun x hx => (h.held x hx).below hb (h.held x hx).lt, h.below.trans (hb.mono h.below.size), h.res.below hb⟩
theorem LW.eq {w W W' : World} {L : List (Nat × TypeId × Array Value)} (h : LW w L W) (e : W' = W) : LW w L W' := e ▸ h
theorem LW.push {w W : World} {L : List (Nat × TypeId × Array Value)} (h : LW w L W) (g : Nat) (t : TypeId) (cs : Array Value) (hg : W.heap.size = g) : LW w ((g, t, cs) :: L) (W.alloc (.cells cs t)) := by
  subst hg
  refine ⟨fun x hx => ?_, below_alloc h.below _, h.res.below (below_alloc (Below.refl _ _) _)⟩
  rcases List.mem_cons.1 hx with rfl | hx
  · exact Blk.new W _ _
  · exact (h.held x hx).alloc _
theorem LW.two {w W : World} {L : List (Nat × TypeId × Array Value)} (h : LW w L W) {x y : Nat × TypeId × Array Value} (hx : x ∈ L) (hy : y ∈ L) : LW w [x, y] W := by
  refine ⟨fun z hz => ?_, h.below, h.res⟩
  simp only [List.mem_cons, List.not_mem_nil, or_false] at hz
  rcases hz with rfl | rfl
  · exact h.held _ hx
  · exact h.held _ hy
theorem LW.drop {w W : World} {x : Nat × TypeId × Array Value} {L : List (Nat × TypeId × Array Value)} (h : LW w (x :: L) W) : LW w L W := ⟨fun z hz => h.held z (.tail _ hz), h.below, h.res⟩
theorem LW.cons {w W : World} {L : List (Nat × TypeId × Array Value)} (h : LW w L W) (g : Nat) (t : TypeId) (cs : Array Value) (k : Blk W g t cs) : LW w ((g, t, cs) :: L) W := by
  refine ⟨fun x hx => ?_, h.below, h.res⟩
  rcases List.mem_cons.1 hx with rfl | hx
  · exact k
  · exact h.held x hx
theorem LW.curve {w W : World} {L : List (Nat × TypeId × Array Value)} (h : LW w L W) {g : Nat} {c : CT} (hm : (g, 52, cvA c) ∈ L) : CBlk W g c := h.held _ hm
theorem LW.loss {w W : World} {L : List (Nat × TypeId × Array Value)} (h : LW w L W) {g : Nat} {x y : Value} (hm : (g, 24, #[x, y]) ∈ L) : Blk W g 24 #[x, y] := h.held _ hm
/-! ### light -/
/-- Curves in a row. -/
def CRow (W : World) (v : Value) (cs : List CT) : Prop := ∃ b, v = .slice (some ⟨b, 0, none⟩) cs.length cs.length ∧ cs.length ≤ 10 ∧ ∀ (j : Nat) c, cs[j]? = some c → ∀ k, k < 8 → W.cell? ⟨b, j * 8 + k, none⟩ = some (.string (c k))
theorem CRow.one {W : World} {b : Nat} {a : CT} (h : Blk W b 52 (cvA a)) : CRow W (.slice (some ⟨b, 0, none⟩) 1 1) [a] := by
  refine ⟨b, rfl, by simp, fun j c hj k hk => ?_⟩
  match j with
  | 0 =>
    cases hj
    rw [show 0 * 8 + k = k by omega]
    exact CBlk.cell h hk
  | j + 1 => simp at hj
theorem CRow.two {W : World} {b : Nat} {t : TypeId} {a c : CT} (h : Blk W b t (cvA a ++ cvA c)) : CRow W (.slice (some ⟨b, 0, none⟩) 2 2) [a, c] := by
  refine ⟨b, rfl, by simp, fun j x hj k hk => ?_⟩
  match j with
  | 0 =>
    cases hj
    rw [Blk.cell h, Array.getElem?_append_left (by show 0 * 8 + k < 8; omega), show 0 * 8 + k = k by omega]
    exact cvA_get a hk
  | 1 =>
    cases hj
    rw [Blk.cell h, Array.getElem?_append_right (by show 8 ≤ 1 * 8 + k; omega), show 1 * 8 + k - (cvA a).size = k by show 1 * 8 + k - 8 = k; omega]
    exact cvA_get c hk
  | j + 2 => simp at hj
theorem CRow.three {W : World} {b : Nat} {t : TypeId} {a c d : CT} (h : Blk W b t (cvA a ++ cvA c ++ cvA d)) : CRow W (.slice (some ⟨b, 0, none⟩) 3 3) [a, c, d] := by
  refine ⟨b, rfl, by simp, fun j x hj k hk => ?_⟩
  match j with
  | 0 =>
    cases hj
    rw [Blk.cell h, Array.getElem?_append_left (by show 0 * 8 + k < 16; omega), Array.getElem?_append_left (by show 0 * 8 + k < 8; omega), show 0 * 8 + k = k by omega]
    exact cvA_get a hk
  | 1 =>
    cases hj
    rw [Blk.cell h, Array.getElem?_append_left (by show 1 * 8 + k < 16; omega), Array.getElem?_append_right (by show 8 ≤ 1 * 8 + k; omega), show 1 * 8 + k - (cvA a).size = k by show 1 * 8 + k - 8 = k; omega]
    exact cvA_get c hk
  | 2 =>
    cases hj
    rw [Blk.cell h, Array.getElem?_append_right (by show 16 ≤ 2 * 8 + k; omega), show 2 * 8 + k - (cvA a ++ cvA c).size = k by show 2 * 8 + k - 16 = k; omega]
    exact cvA_get d hk
  | j + 3 => simp at hj
def lightC (cs : List CT) : Bool := cs.all fun c => (List.range 8).all fun k => decide ((c k).size ≤ 120)
theorem lightC_of {cs : List CT} (h : ∀ (j : Nat) c, cs[j]? = some c → ∀ k, k < 8 → (c k).size ≤ 120) : lightC cs = true := by
  unfold lightC
  rw [List.all_eq_true]
  intro c hc
  obtain ⟨j, hj⟩ := List.getElem?_of_mem hc
  rw [List.all_eq_true]
  intro k hk
  exact decide_eq_true (h j c hj k (List.mem_range.1 hk))
theorem lightC_not {cs : List CT} {j k : Nat} {c : CT} (hj : cs[j]? = some c) (hk : k < 8) (h : ¬ (c k).size ≤ 120) : lightC cs = false := by
  unfold lightC
  rw [List.all_eq_false]
  refine ⟨c, List.mem_of_getElem? hj, ?_⟩
  rw [List.all_eq_true]
  intro h2
  exact h (of_decide_eq_true (h2 k (List.mem_range.2 hk)))
theorem lightC_at {cs : List CT} (h : lightC cs = true) {c : CT} (hc : c ∈ cs) : ∀ k, k < 8 → (c k).size ≤ 120 := fun k hk =>
  of_decide_eq_true (List.all_eq_true.1 (List.all_eq_true.1 h c hc) k (List.mem_range.2 hk))
set_option maxRecDepth 100000 in
set_option maxHeartbeats 4000000 in
theorem mlight_any (cs : List CT) (v : Value) (w : World) (hv : CRow w v cs) :
    Calls Tryz.prog 38 #[v] w fun e w' => e = .returned (.bool (lightC cs)) ∧ w' = w := by
  obtain ⟨b, rfl, hlen, hcells⟩ := hv
  have HCE := Lib.hid hcells
  clear hcells
  go_enter Tryz.func38, Tryz.ntmps38
  go_wp2
  go_loopw [3] (fun v3 wr => ∃ k : Nat, k ≤ cs.length ∧ v3 = .int .i64 (k : Int) ∧ Hid (∀ (j : Nat) c, j < k → cs[j]? = some c → ∀ m, m < 8 → (c m).size ≤ 120) ∧ wr = w) (fun v3 _ => cs.length - (intOf v3).toNat)
  case atStart => exact ⟨0, Nat.zero_le _, rfl, Lib.hid (fun j c h => absurd h (by omega)), rfl⟩
  case round =>
    obtain ⟨k, hk, rfl, HE, rfl⟩ := hrel
    by_cases hlt : k < cs.length
    · obtain ⟨c, hc⟩ : ∃ c, cs[k]? = some c := ⟨_, List.getElem?_eq_getElem hlt⟩
      have HX := Lib.hid (And.intro hc hlt)
      have hlt' : (k : Int) < (cs.length : Int) := by omega
      have hk0 : (0 : Int) ≤ (k : Int) := by omega
      clear hc
      go_wp2
      go_loopw [4] (fun v4 wr2 => ∃ m : Nat, m ≤ 7 ∧ v4 = .int .i64 (m : Int) ∧ Hid (∀ m', m' < m → (c m').size ≤ 120) ∧ wr2 = wr) (fun v4 _ => 7 - (intOf v4).toNat)
      case atStart => exact ⟨0, Nat.zero_le _, rfl, Lib.hid (fun m' h => absurd h (by omega)), rfl⟩
      case round =>
        obtain ⟨m, hm, rfl, HM, rfl⟩ := hrel
        rcases Nat.lt_or_ge m 7 with hm7 | hm7
        · have cm := HCE.out k c HX.out.1 m (by omega)
          have hm0 : (0 : Int) ≤ (m : Int) := by omega
          have hm1 : (m : Int) < 7 := by omega
          by_cases g1 : (c m).size ≤ 120
          · have d1 : decide (120 < ((c m).size : Int)) = false := decide_eq_false (by omega)
            have HS := Lib.hid g1
            clear g1
            go_wp2
            go_roundw
            case rel => exact ⟨m + 1, hm7, by go_num, Lib.hid (fun m' hm' => by
              rcases Nat.lt_or_ge m' m with h | h
              · exact HM.out m' h
              · obtain rfl : m' = m := by omega
                exact HS.out), trivial⟩
            case measure => simp [intOf]; omega
          · have d1 : decide (120 < ((c m).size : Int)) = true := decide_eq_true (by omega)
            have HS := Lib.hid (lightC_not HX.out.1 (by omega) g1)
            clear g1
            go_wp2
            go_ret
            exact ⟨by rw [HS.out]; rfl, rfl⟩
        · obtain rfl : m = 7 := by omega
          have cm := HCE.out k c HX.out.1 7 (by omega)
          by_cases g1 : (c 7).size ≤ 120
          · have d1 : decide (120 < ((c 7).size : Int)) = false := decide_eq_false (by omega)
            have HS := Lib.hid g1
            clear g1
            go_wp2
            go_roundw
            case rel => exact ⟨k + 1, HX.out.2, by go_num, Lib.hid (fun j x hj hxj m' hm' => by
              rcases Nat.lt_or_ge j k with h | h
              · exact HE.out j x h hxj m' hm'
              · obtain rfl : j = k := by omega
                rw [HX.out.1] at hxj
                cases hxj
                by_cases h7 : m' = 7
                · subst h7; exact HS.out
                · exact HM.out m' (by omega)), trivial⟩
            case measure => have := HX.out.2; simp [intOf]; omega
          · have d1 : decide (120 < ((c 7).size : Int)) = true := decide_eq_true (by omega)
            have HS := Lib.hid (lightC_not HX.out.1 (by omega) g1)
            clear g1
            go_wp2
            go_ret
            exact ⟨by rw [HS.out]; rfl, rfl⟩
    · have hlt' : ¬ (k : Int) < (cs.length : Int) := by omega
      have HS := Lib.hid (lightC_of (fun j c hj => HE.out j c (by have := (List.getElem?_eq_some_iff.1 hj).1; omega) hj))
      go_wp2
      go_ret
      exact ⟨by rw [HS.out]; rfl, rfl⟩
/-! ### factor -/
/-- What factor asks of a text. -/
def mfactorB (f : ByteArray) : Bool := decide (f.size ≤ 12) && (errQ f.data.toList == 0) && decide (cmpQ 1 (valQ f.data.toList) ≤ 0)
theorem merrQ_one : errQ (⟨#[49]⟩ : ByteArray).data.toList = 0 := IsT.one.err
set_option maxRecDepth 100000 in
set_option maxHeartbeats 4000000 in
theorem mfactor_walk (f : ByteArray) (c k : Int) (b : Bool) (w : World) (HC : Hid (∀ w, Calls Tryz.prog 35 #[.string ⟨#[49]⟩, .string f] w fun e w' => e = .returned (.tuple #[.int .i64 c, .int .i64 k]) ∧ Below w.heap.size w w'))
    (hb : b = (decide (f.size ≤ 12) && ((k == 0) && decide (c ≤ 0)))) :
    Calls Tryz.prog 40 #[.string f] w fun e w' => e = .returned (.bool b) ∧ Below w.heap.size w w' := by
  by_cases h1 : f.size ≤ 12
  · have d1 : decide ((f.size : Int) ≤ 12) = true := decide_eq_true (by omega)
    rw [decide_eq_true h1, Bool.true_and] at hb
    clear h1
    by_cases h2 : (k == 0) = true
    · rw [h2, Bool.true_and] at hb
      subst hb
      go_enter Tryz.func40, Tryz.ntmps40
      go_wp2_with (go_at_call 35; refine (HC.out _).mono ?_; rintro e w1 ⟨rfl, hb⟩; have HB := Lib.hid hb; clear hb)
      go_ret
      exact ⟨rfl, HB.out⟩
    · have h2 : (k == 0) = false := by simpa using h2
      rw [h2, Bool.false_and] at hb
      subst hb
      go_enter Tryz.func40, Tryz.ntmps40
      go_wp2_with (go_at_call 35; refine (HC.out _).mono ?_; rintro e w1 ⟨rfl, hb⟩; have HB := Lib.hid hb; clear hb)
      go_ret
      exact ⟨rfl, HB.out⟩
  · have d1 : decide ((f.size : Int) ≤ 12) = false := decide_eq_false (by omega)
    rw [decide_eq_false h1, Bool.false_and] at hb
    clear h1
    subst hb
    go_enter Tryz.func40, Tryz.ntmps40
    go_wp2_with (go_at_call 35; refine (HC.out _).mono ?_; rintro e w1 ⟨rfl, hb⟩; have HB := Lib.hid hb; clear hb)
    go_ret
    exact ⟨rfl, HB.out⟩
theorem mfactor_any (f : ByteArray) (w : World) (hf : f.size ≤ 9223372036854775807) :
    Calls Tryz.prog 40 #[.string f] w fun e w' => e = .returned (.bool (mfactorB f)) ∧ Below w.heap.size w w' := by
  by_cases he : errQ f.data.toList = 0
  · refine mfactor_walk f _ 0 _ w (Lib.hid (fun w => rcmpT w IsT.one (IsT.of he))) ?_
    unfold mfactorB
    rw [he]
    simp
  · refine mfactor_walk f 0 (errQ f.data.toList : Int) _ w (Lib.hid (fun w => refCmp_err2B ⟨#[49]⟩ f w (by decide) hf merrQ_one he)) ?_
    unfold mfactorB
    have h1 : ((errQ f.data.toList) == 0) = false := beq_eq_false_iff_ne.2 he
    have h2 : ((errQ f.data.toList : Int) == 0) = false := by rw [beq_eq_false_iff_ne]; omega
    rw [h1, h2]
    simp
theorem mfactor_ok {f : ByteArray} (h : mfactorB f = true) : f.size ≤ 12 ∧ errQ f.data.toList = 0 ∧ 1 ≤ valQ f.data.toList := by
  unfold mfactorB at h
  simp only [Bool.and_eq_true, decide_eq_true_eq, beq_iff_eq] at h
  exact ⟨h.1.1, h.1.2, (cmpQ_le _ _).1 h.2⟩
/-! ### least -/
set_option maxRecDepth 100000 in
theorem mlst_any {a b : ByteArray} {p q : Rat} (ha : IsT a p) (hb : IsT b q) : Ret 43 #[.string a, .string b] (.bool (decide (cmpQ p q ≤ 0))) := fun w _ => by
  have HC := Lib.hid (rcmpT w ha hb)
  generalize cmpQ p q = x at *
  clear ha hb
  go_enter Tryz.func43, Tryz.ntmps43
  go_wp2_with (go_at_call 35; refine HC.out.mono ?_; rintro e w1 ⟨rfl, hb⟩; have HB := Lib.hid hb; clear hb)
  go_ret
  exact ⟨rfl, HB.out⟩
end Go.Proofs.YtbfhonhjejeaiaaGreatDoor
namespace Go.Proofs.YtbfhonhjejeaiaaGreatDoor
open Go.RowKit Go.Shelf
open Lim

/-- What is to be reckoned for a given text to be the text of a given number: the digits of its parts. -/
def litB (m : Bool) (ln ld l : List UInt8) (q : Rat) : Bool :=
  NForm ln && NForm ld && decide (dv ld ≠ 0) && decide ((dv ln).gcd (dv ld) = 1) && (!m || decide (dv ln ≠ 0)) && decide (ln.length ≤ 100) && decide (ld.length ≤ 100) &&
    decide (mkQ m (dv ln) (dv ld) = q) && decide ((if m then [45] else []) ++ ln ++ (if dv ld = 1 then [] else 47 :: ld) = l)
theorem isT_lit (m : Bool) (ln ld : List UInt8) {l : List UInt8} {q : Rat} (h : litB m ln ld l q = true) : IsT ⟨l.toArray⟩ q ∧ Sz 100 q := by
  unfold litB at h
  simp only [Bool.and_eq_true, decide_eq_true_eq, Bool.or_eq_true, Bool.not_eq_true'] at h
  obtain ⟨⟨⟨⟨⟨⟨⟨⟨h1, h2⟩, h3⟩, h4⟩, h5⟩, h6⟩, h7⟩, h8⟩, h9⟩ := h
  have e1 := NForm.eq h1
  have e2 := NForm.eq h2
  have hm : m = true → dv ln ≠ 0 := fun hm => by
    rcases h5 with h5 | h5
    · rw [hm] at h5; cases h5
    · exact h5
  obtain ⟨p1, p2, p3⟩ := mkQ_low (m := m) h3 h4
  have hs : Sz 100 q := by
    rw [← h8, sz_iff (by decide), p1, p2, ← Lib.decDigits_length, ← Lib.decDigits_length, e1, e2]
    exact ⟨h6, h7⟩
  refine ⟨⟨?_, hs.mono (by decide)⟩, hs⟩
  rw [← h8, text_q h3 h4 hm, e1, e2, h9]
theorem t_3_2 : IsT ⟨#[51, 47, 50]⟩ (3/2) := (isT_lit false [51] [50] (by decide +kernel)).1
end Go.Proofs.YtbfhonhjejeaiaaGreatDoor
namespace Go.Proofs.YtbfhonhjejeaiaaGreatDoor
open Go.RowKit Go.Shelf
open Lim

theorem cells8 {W : World} {g : Nat} {t : TypeId} {v0 v1 v2 v3 v4 v5 v6 v7 : Value} (h : Blk W g t #[v0, v1, v2, v3, v4, v5, v6, v7]) : W.cell? ⟨g, 0, none⟩ = some v0 ∧ W.cell? ⟨g, 1, none⟩ = some v1 ∧ W.cell? ⟨g, 2, none⟩ = some v2 ∧ W.cell? ⟨g, 3, none⟩ = some v3 ∧
    W.cell? ⟨g, 4, none⟩ = some v4 ∧ W.cell? ⟨g, 5, none⟩ = some v5 ∧ W.cell? ⟨g, 6, none⟩ = some v6 ∧ W.cell? ⟨g, 7, none⟩ = some v7 :=
  ⟨by rw [Blk.cell h]; rfl, by rw [Blk.cell h]; rfl, by rw [Blk.cell h]; rfl, by rw [Blk.cell h]; rfl, by rw [Blk.cell h]; rfl, by rw [Blk.cell h]; rfl, by rw [Blk.cell h]; rfl, by rw [Blk.cell h]; rfl⟩
theorem m_2 : IsT ⟨#[50]⟩ 2 := (isT_lit false [50] [49] (by decide +kernel)).1
theorem m_3 : IsT ⟨#[51]⟩ 3 := (isT_lit false [51] [49] (by decide +kernel)).1
theorem m_114 : IsT ⟨#[49, 49, 47, 52]⟩ (11/4) := (isT_lit false [49, 49] [52] (by decide +kernel)).1
theorem m_18 : IsT ⟨#[49, 47, 56]⟩ (1/8) := (isT_lit false [49] [56] (by decide +kernel)).1
theorem sz_lit {q : Rat} (h : decide (nm q < 10 ^ 60 ∧ q.den < 10 ^ 60) = true) : Sz 120 q :=
  have h2 : nm q < 10 ^ 60 ∧ q.den < 10 ^ 60 := of_decide_eq_true h
  Sz.mono (j := 60) h2 (by decide)
theorem of_cis {F L : Rat} (sf : Sz 120 F) (sl : Sz 120 L) (h : ((List.range 7).all fun i => decide (1 ≤ ofM F L i)) = true) (h0 : 0 ≤ L) (h1 : L ≤ 1) : CIs (txt (ofM F L)) (ofM F L) :=
  CIs.mk' (sz_ofM sf sl (by omega)) (by decide) (fun i hi => of_decide_eq_true (List.all_eq_true.1 h i (List.mem_range.2 hi))) h0 h1
/-- The curve of the factor 2. -/
def twoT : CT := fun i => if i = 0 then ⟨#[51, 47, 50]⟩ else if i = 1 then ⟨#[49, 49, 47, 52]⟩ else if i = 7 then ⟨#[48]⟩ else txt (ofM 2 0) i
theorem two_txt : ∀ k, k < 8 → txt (ofM 2 0) k = twoT k := by
  intro k _
  unfold twoT
  split
  · rename_i h; subst h
    show rT (ofM 2 0 0) = _
    rw [show ofM 2 0 0 = 3/2 by decide +kernel]
    exact t_3_2.text.symm
  · split
    · rename_i h; subst h
      show rT (ofM 2 0 1) = _
      rw [show ofM 2 0 1 = 11/4 by decide +kernel]
      exact m_114.text.symm
    · split
      · rename_i h; subst h
        show rT (ofM 2 0 7) = _
        rw [show ofM 2 0 7 = 0 by decide +kernel]
        exact IsT.zero.text.symm
      · rfl
theorem two_cv : cv (txt (ofM 2 0)) = .agg #[.string ⟨#[51, 47, 50]⟩, .string ⟨#[49, 49, 47, 52]⟩, .string (txt (ofM 2 0) 2), .string (txt (ofM 2 0) 3), .string (txt (ofM 2 0) 4), .string (txt (ofM 2 0) 5), .string (txt (ofM 2 0) 6), .string ⟨#[48]⟩] := by
  have e0 := two_txt 0 (by omega)
  have e1 := two_txt 1 (by omega)
  have e7 := two_txt 7 (by omega)
  unfold cv
  rw [e0, e1, e7]
  rfl
theorem two_of : Ret 47 #[.string ⟨#[50]⟩, .string ⟨#[48]⟩] (.tuple #[.agg #[.string ⟨#[51, 47, 50]⟩, .string ⟨#[49, 49, 47, 52]⟩, .string (txt (ofM 2 0) 2), .string (txt (ofM 2 0) 3), .string (txt (ofM 2 0) 4), .string (txt (ofM 2 0) 5), .string (txt (ofM 2 0) 6), .string ⟨#[48]⟩], .int .i64 0]) := by
  have h := mofV m_2 (sz_lit (by decide +kernel)) (by decide +kernel) IsT.zero (sz_lit (by decide +kernel)) (by decide +kernel) (by decide +kernel)
  rwa [two_cv] at h
theorem two_to : Ret 42 #[.agg #[.string ⟨#[51, 47, 50]⟩, .string ⟨#[49, 49, 47, 52]⟩, .string (txt (ofM 2 0) 2), .string (txt (ofM 2 0) 3), .string (txt (ofM 2 0) 4), .string (txt (ofM 2 0) 5), .string (txt (ofM 2 0) 6), .string ⟨#[48]⟩], .int .i64 2, .string ⟨#[51]⟩] (.tuple #[.agg #[.string ⟨#[51]⟩, .string ⟨#[49, 47, 56]⟩], .int .i64 0]) := by
  have sm : SzC 100 (ofM 2 0) := fun i hi => by
    have h : ((List.range 8).all fun i => decide (nm (ofM 2 0 i) < 10 ^ 60 ∧ (ofM 2 0 i).den < 10 ^ 60)) = true := by decide +kernel
    have h2 : nm (ofM 2 0 i) < 10 ^ 60 ∧ (ofM 2 0 i).den < 10 ^ 60 := of_decide_eq_true (List.all_eq_true.1 h i (List.mem_range.2 hi))
    exact Sz.mono (j := 60) h2 (by decide)
  have h := mtoV (of_cis (F := 2) (L := 0) (sz_lit (by decide +kernel)) (sz_lit (by decide +kernel)) (by decide +kernel) (by decide +kernel) (by decide +kernel)) sm (by omega) m_3 (sz_lit (by decide +kernel)) (by decide +kernel) (i := 0) (by omega)
  rw [two_cv, show toM (ofM 2 0) 3 0 = 1/8 by decide +kernel, ← m_18.text] at h
  exact h
set_option maxRecDepth 100000 in
set_option maxHeartbeats 16000000 in
theorem mlives_any  (w : World) (hr : Res w) :
    Calls Tryz.prog 37 #[] w fun e w' => e = .returned (.bool true) ∧ Below w.heap.size w w' := by
  have D0 := Lib.hid (LW.nil hr)
  clear hr
  have TK0 : True := trivial
  have TK1 : True := trivial
  obtain ⟨t, ht⟩ : ∃ t, t = txt (ofM 2 0) := ⟨_, rfl⟩
  have HO := Lib.hid two_of
  have HT := Lib.hid two_to
  rw [← ht] at HO HT
  clear ht
  go_enter Tryz.func37, Tryz.ntmps37
  go_wp2_with ((clear TK0; go_at_call 47; refine (HO.out _ D0.out.res).mono ?_; rintro e w1 ⟨rfl, hb⟩; have D1 := Lib.hid (D0.out.later hb); clear hb))
  go_wp2_with ((clear TK1; go_at_call 42; refine (HT.out _ (D1.out.push (w1.heap.size) 52 #[.string ⟨#[51, 47, 50]⟩, .string ⟨#[49, 49, 47, 52]⟩, .string (t 2), .string (t 3), .string (t 4), .string (t 5), .string (t 6), .string ⟨#[48]⟩] rfl).res).mono ?_; rintro e w2 ⟨rfl, hb⟩; have D2 := Lib.hid ((D1.out.push (w1.heap.size) 52 #[.string ⟨#[51, 47, 50]⟩, .string ⟨#[49, 49, 47, 52]⟩, .string (t 2), .string (t 3), .string (t 4), .string (t 5), .string (t 6), .string ⟨#[48]⟩] rfl).later hb); have CA := D2.out.held _ (.head _); obtain ⟨a0, a1, a2, a3, a4, a5, a6, a7⟩ := cells8 CA; have al := CA.lt; clear CA; clear hb))
  go_wp2
  go_ret
  exact ⟨rfl, (D2.out.push w2.heap.size 24 #[.string ⟨#[51]⟩, .string ⟨#[49, 47, 56]⟩] rfl).below⟩
end Go.Proofs.YtbfhonhjejeaiaaGreatDoor
namespace Go.Proofs.YtbfhonhjejeaiaaGreatDoor
open Go.RowKit

set_option maxRecDepth 100000 in
theorem pick_any (x n : Int) (w : World) (hn : 0 < n) (_hx : -9223372036854775808 ≤ x) (_hx2 : x ≤ 9223372036854775807) (hn2 : n ≤ 1000000) :
    Calls Tryz.prog 28 #[.int .i64 x, .int .i64 n] w fun e w' => ∃ k : Int, e = .returned (.int .i64 k) ∧ 0 ≤ k ∧ k < n ∧ w' = w := by
  have h1 := Int.tmod_lt_of_pos x hn
  have h2 := Int.lt_tmod_of_pos x hn
  go_enter Tryz.func28, Tryz.ntmps28
  by_cases h : x.tmod n < 0
  · go_wp2
    go_ret
    exact ⟨_, rfl, by omega, by omega, rfl⟩
  · go_wp2
    go_ret
    exact ⟨_, rfl, by omega, by omega, rfl⟩
end Go.Proofs.YtbfhonhjejeaiaaGreatDoor
namespace Go.Proofs.YtbfhonhjejeaiaaGreatDoor
open Go.RowKit

/-- A later world: what lay before lies as it did. -/
structure LaterW (w : World) where
  W : World
  h : Below w.heap.size w W
instance (w : World) : Nonempty (LaterW w) := ⟨⟨w, Below.refl _ _⟩⟩
end Go.Proofs.YtbfhonhjejeaiaaGreatDoor
namespace Go.Proofs.YtbfhonhjejeaiaaGreatDoor
open Go.RowKit

end Go.Proofs.YtbfhonhjejeaiaaGreatDoor
namespace Go.Proofs.YtbfhonhjejeaiaaGreatDoor
open Go.RowKit Go.Shelf
open Lim

theorem LW.wideC {w W : World} {L : List (Nat × TypeId × Array Value)} (h : LW w L W) {g : Nat} {c : CT} (hm : (g, 52, cvA c) ∈ L) : (∀ z : LaterW W, z.W.cell? ⟨g, 0, none⟩ = some (.string (c 0))) ∧ (∀ z : LaterW W, z.W.cell? ⟨g, 1, none⟩ = some (.string (c 1))) ∧ (∀ z : LaterW W, z.W.cell? ⟨g, 2, none⟩ = some (.string (c 2))) ∧ (∀ z : LaterW W, z.W.cell? ⟨g, 3, none⟩ = some (.string (c 3))) ∧
    (∀ z : LaterW W, z.W.cell? ⟨g, 4, none⟩ = some (.string (c 4))) ∧ (∀ z : LaterW W, z.W.cell? ⟨g, 5, none⟩ = some (.string (c 5))) ∧ (∀ z : LaterW W, z.W.cell? ⟨g, 6, none⟩ = some (.string (c 6))) ∧ (∀ z : LaterW W, z.W.cell? ⟨g, 7, none⟩ = some (.string (c 7))) :=
  have k := fun z : LaterW W => (h.curve hm).later z.h
  ⟨fun z => (k z).cell (by omega), fun z => (k z).cell (by omega), fun z => (k z).cell (by omega), fun z => (k z).cell (by omega), fun z => (k z).cell (by omega), fun z => (k z).cell (by omega), fun z => (k z).cell (by omega), fun z => (k z).cell (by omega)⟩
theorem crow1 {W : World} {b : Nat} {t : TypeId} {a : CT} (h : Blk W b t #[.string (a 0), .string (a 1), .string (a 2), .string (a 3), .string (a 4), .string (a 5), .string (a 6), .string (a 7)]) : CRow W (.slice (some ⟨b, 0, none⟩) 1 1) [a] := by
  refine ⟨b, rfl, by simp, fun j c hj k hk => ?_⟩
  match j with
  | 0 =>
    cases hj
    rw [show 0 * 8 + k = k by omega, Blk.cell h]
    exact cvA_get a hk
  | j + 1 => simp at hj
theorem crow3 {W : World} {b : Nat} {t : TypeId} {a c d : CT} (h : Blk W b t #[.string (a 0), .string (a 1), .string (a 2), .string (a 3), .string (a 4), .string (a 5), .string (a 6), .string (a 7), .string (c 0), .string (c 1), .string (c 2), .string (c 3), .string (c 4), .string (c 5), .string (c 6), .string (c 7), .string (d 0), .string (d 1), .string (d 2), .string (d 3), .string (d 4), .string (d 5), .string (d 6), .string (d 7)]) : CRow W (.slice (some ⟨b, 0, none⟩) 3 3) [a, c, d] := by
  have e : #[.string (a 0), .string (a 1), .string (a 2), .string (a 3), .string (a 4), .string (a 5), .string (a 6), .string (a 7), .string (c 0), .string (c 1), .string (c 2), .string (c 3), .string (c 4), .string (c 5), .string (c 6), .string (c 7), .string (d 0), .string (d 1), .string (d 2), .string (d 3), .string (d 4), .string (d 5), .string (d 6), .string (d 7)] = cvA a ++ cvA c ++ cvA d := by simp [cvA]
  rw [e] at h
  exact CRow.three h
theorem eq8_same (X : CT) (w : World) : (Op.equalIn 10000 52 (.agg #[.string (X 0), .string (X 1), .string (X 2), .string (X 3), .string (X 4), .string (X 5), .string (X 6), .string (X 7)]) (.agg #[.string (X 0), .string (X 1), .string (X 2), .string (X 3), .string (X 4), .string (X 5), .string (X 6), .string (X 7)])).run Tryz.prog w = .ok true w := by
  have h := eq8_top (X 0) (X 1) (X 2) (X 3) (X 4) (X 5) (X 6) (X 7) (X 0) (X 1) (X 2) (X 3) (X 4) (X 5) (X 6) (X 7) w
  simpa using h
end Go.Proofs.YtbfhonhjejeaiaaGreatDoor
