/- law 08: number, least, plus, times. Walks of laws behind made: one class of later worlds for all that follows. The plain law of DistTriangle: distances as texts. No program in sight. The plain law of DistFactors: the least factor as a text. No program in sight. dist: slices.Clone of masses, scaled (printed by mkdprog.py). dist: slices.Index of strings, Push (printed by mkdprog.py). law 08: names (printed by mkdlaw3.py). DistPushes, as a walk (printed by mkdlaw3.py). Opening arguments: slices of strings. -/
import Derived.Test.YtigapglmipmbeaaGreatDoorRb15
import Derived.Test.YtigapglmipmbeaaGreatDoorRb16
import Derived.Test.YtigapglmipmbeaaGreatDoorRb11
import Derived.Test.YtigapglmipmbeaaGreatDoorLwDistPushes01
import Derived.Test.YtigapglmipmbeaaGreatDoorRb12
import Derived.Test.YtigapglmipmbeaaGreatDoorRb13
import Derived.Test.YtigapglmipmbeaaGreatDoorRb17
namespace Go.Proofs.YtigapglmipmbeaaGreatDoor
open Go.RowKit Go.Shelf
open Lim
def numberB (f : ByteArray) : Bool := decide (f.size ≤ 24) && ((errQ f.data.toList == 0) && decide (0 ≤ valQ f.data.toList))
set_option maxRecDepth 100000 in
theorem refSign_errB (a : ByteArray) (w : World) (ha : a.size ≤ 9223372036854775807) (he : errQ a.data.toList ≠ 0) :
    Calls Tryz.prog 110 #[.string a] w fun e w' => e = .returned (.tuple #[.int .i64 0, .int .i64 (errQ a.data.toList : Int)]) ∧ Below w.heap.size w w' := by
  have HP := Lib.hid (rq_anyB a w ha)
  have hne : ((errQ a.data.toList : Int) == 0) = false := by rw [beq_eq_false_iff_ne]; omega
  have HE := Lib.hid he
  clear he
  go_enter Tryz.func110, Tryz.ntmps110
  go_wp2_with ((go_at_call 155; refine HP.out.mono ?_; rintro e w1 ⟨v, rfl, -, hz, hb⟩; obtain rfl := hz HE.out; have HB := Lib.hid hb; clear hb hz))
  all_goals first
    | (refine bodyPost_ret (results_tmp2 rfl _ _ _) rfl ?_; exact ⟨rfl, below_alloc HB.out _⟩)
    | (exfalso; have := HE.out; omega)
    | (exfalso; simp_all)
set_option maxRecDepth 100000 in
set_option maxHeartbeats 4000000 in
theorem dnumber_walk (f : ByteArray) (c k : Int) (b : Bool) (w : World) (HC : Hid (Calls Tryz.prog 110 #[.string f] w fun e w' => e = .returned (.tuple #[.int .i64 c, .int .i64 k]) ∧ Below w.heap.size w w'))
    (hb : b = (decide (f.size ≤ 24) && ((k == 0) && decide (0 ≤ c)))) :
    Calls Tryz.prog 98 #[.string f] w fun e w' => e = .returned (.bool b) ∧ Below w.heap.size w w' := by
  by_cases h1 : f.size ≤ 24
  · have d1 : decide ((f.size : Int) ≤ 24) = true := decide_eq_true (by omega)
    rw [decide_eq_true h1, Bool.true_and] at hb
    clear h1
    by_cases h2 : (k == 0) = true
    · rw [h2, Bool.true_and] at hb
      subst hb
      go_enter Tryz.func98, Tryz.ntmps98
      go_wp2_with (go_at_call 110; refine HC.out.mono ?_; rintro e w1 ⟨rfl, hb⟩; have HB := Lib.hid hb; clear hb)
      go_ret
      exact ⟨rfl, HB.out⟩
    · have h2 : (k == 0) = false := by simpa using h2
      rw [h2, Bool.false_and] at hb
      subst hb
      go_enter Tryz.func98, Tryz.ntmps98
      go_wp2_with (go_at_call 110; refine HC.out.mono ?_; rintro e w1 ⟨rfl, hb⟩; have HB := Lib.hid hb; clear hb)
      go_ret
      exact ⟨rfl, HB.out⟩
  · have d1 : decide ((f.size : Int) ≤ 24) = false := decide_eq_false (by omega)
    rw [decide_eq_false h1, Bool.false_and] at hb
    clear h1
    subst hb
    go_enter Tryz.func98, Tryz.ntmps98
    go_wp2_with (go_at_call 110; refine HC.out.mono ?_; rintro e w1 ⟨rfl, hb⟩; have HB := Lib.hid hb; clear hb)
    go_ret
    exact ⟨rfl, HB.out⟩
theorem dnumber_any (f : ByteArray) (w : World) (hf : f.size ≤ 9223372036854775807) (hr : Res w) :
    Calls Tryz.prog 98 #[.string f] w fun e w' => e = .returned (.bool (numberB f)) ∧ Below w.heap.size w w' := by
  by_cases he : errQ f.data.toList = 0
  · refine dnumber_walk f (sgQ (valQ f.data.toList)) 0 _ w (Lib.hid (retRSign_ok (IsT.of he).size he w hr)) ?_
    unfold numberB
    rw [he]
    have : decide (0 ≤ sgQ (valQ f.data.toList)) = decide (0 ≤ valQ f.data.toList) := decide_eq_decide.2 (by
      have := sg_lt (valQ f.data.toList)
      constructor
      · intro h; exact Classical.byContradiction fun h2 => by have := this.2 (by grind); omega
      · intro h; exact Classical.byContradiction fun h2 => by have := this.1 (by omega); grind)
    rw [this]
    rfl
  · refine dnumber_walk f 0 (errQ f.data.toList : Int) _ w (Lib.hid (refSign_errB f w hf he)) ?_
    unfold numberB
    have h1 : ((errQ f.data.toList) == 0) = false := beq_eq_false_iff_ne.2 he
    have h2 : ((errQ f.data.toList : Int) == 0) = false := by rw [beq_eq_false_iff_ne]; omega
    rw [h1, h2]
    simp
theorem numberB_ok {f : ByteArray} (h : numberB f = true) : f.size ≤ 24 ∧ errQ f.data.toList = 0 ∧ 0 ≤ valQ f.data.toList := by
  unfold numberB at h
  simp only [Bool.and_eq_true, decide_eq_true_eq, beq_iff_eq] at h
  exact ⟨h.1, h.2.1, h.2.2⟩
set_option maxRecDepth 100000 in
theorem dleast_any {a b : ByteArray} {p q : Rat} (ha : IsT a p) (hb : IsT b q) : Ret 100 #[.string a, .string b] (.bool (decide (cmpQ p q ≤ 0))) := fun w _ => by
  have HC := Lib.hid (rcmpT w ha hb)
  generalize cmpQ p q = x at *
  clear ha hb
  go_enter Tryz.func100, Tryz.ntmps100
  go_wp2_with (go_at_call 119; refine HC.out.mono ?_; rintro e w1 ⟨rfl, hb⟩; have HB := Lib.hid hb; clear hb)
  go_ret
  exact ⟨rfl, HB.out⟩
theorem dleast_T {a b : ByteArray} {p q : Rat} (ha : IsT a p) (hb : IsT b q) (h : p ≤ q) : Ret 100 #[.string a, .string b] (.bool true) := by
  have := dleast_any ha hb
  rwa [decide_eq_true ((cmpQ_le p q).2 h)] at this
end Go.Proofs.YtigapglmipmbeaaGreatDoor
namespace Go.Proofs.YtigapglmipmbeaaGreatDoor
open Go.RowKit Go.Shelf
open Lim
section
variable {P : Program} {id : Nat} {Q : Exit → Act → World → Prop} {a : Act} {w0 : World} {l : List Oper}
theorem wp_region_wide (x : LaterW w0) (hm : P.follows .mixedOrders = true) (hB : Region.lexB .any l.toArray = true)
    (h : wpQuiet P l.toArray (fun W => ∃ x : LaterW w0, W = x.W) (fun a' => ∀ W, (∃ x : LaterW w0, W = x.W) → Q .normal a' W) l a) : (Code.region id l.toArray true).wp P Q a x.W :=
  wp_region_quiet (C := fun W => ∃ x : LaterW w0, W = x.W) hm hB ⟨⟨{ x.W with drawn := x.W.drawn + 1 }, x.h.trans ⟨rfl, rfl, rfl, Nat.le_refl _, fun _ _ => rfl⟩⟩, rfl⟩ (by simpa using h)
end
theorem LaterW.step {w0 : World} (z : LaterW w0) {W : World} (hb : Below z.W.heap.size z.W W) : ∃ x : LaterW w0, W = x.W := ⟨⟨W, z.h.trans (hb.mono z.h.size)⟩, rfl⟩
theorem LLRow.nth {w : World} {bb j : Nat} {outs : List (List L2)} {l : List L2} (hbb : bb < w.heap.size) (h : ∀ (j : Nat) (ls : List L2), outs[j]? = some ls → ∃ u, w.cell? ⟨bb, j, none⟩ = some u ∧ LRowW w u ls) (hj : outs[j]? = some l) :
    ∃ A c, (∀ z : LaterW w, z.W.cell? ⟨bb, j, none⟩ = some (.slice A l.length c)) ∧ ∀ z : LaterW w, LRowW z.W (.slice A l.length c) l := by
  obtain ⟨u, h1, h2⟩ := h j l hj
  obtain ⟨A, c, rfl, _, _⟩ := id h2
  exact ⟨A, c, fun z => (z.h.cell (p := ⟨bb, j, none⟩) hbb).trans h1, fun z => h2.below z.h⟩
structure Made8 (l : List L2) : Prop where
  len : l.length ≤ 16
  key : ∀ x ∈ l, x.1.size ≤ 12
  txt : ∀ x ∈ l, x.2.size ≤ 24
  dst : Dst 385 l
theorem Made8.short {l : List L2} (h : Made8 l) : Short l := fun x hx => ⟨Nat.le_trans (h.key x hx) (by omega), Nat.le_trans (h.txt x hx) (by omega)⟩
theorem Made8.of {lss outs : List (List L2)} (h : madeD 16 12 24 lss = some outs) : outs.length = lss.length ∧ ∀ d ∈ outs, Made8 d := by
  obtain ⟨h1, h2⟩ := madeD_spec h
  refine ⟨h1, fun d hd => ?_⟩
  obtain ⟨h3, h4⟩ := h2 d hd
  obtain ⟨l1, l2⟩ := lightD_iff.1 h3
  exact ⟨l1, fun x hx => (l2 x hx).1, fun x hx => (l2 x hx).2, h4⟩
end Go.Proofs.YtigapglmipmbeaaGreatDoor
namespace Go.Proofs.YtigapglmipmbeaaGreatDoor
open Lim
section
variable {l m n : List L2} (hl : Dst 385 l) (hm : Dst 385 m) (hn : Dst 385 n)
include hl hm
include hn
end
end Go.Proofs.YtigapglmipmbeaaGreatDoor
namespace Go.Proofs.YtigapglmipmbeaaGreatDoor
open Lim
section
variable {l m : List L2} (hl : Dst 385 l) (hm : Dst 385 m)
include hl hm
theorem fac_delta {f : ByteArray} {j : Nat} (hf : errQ f.data.toList = 0) (h0 : 0 ≤ valQ f.data.toList) (sf : Sz j (valQ f.data.toList)) (hj : 385 + (j + 385) + 1 ≤ maxD) :
    deltaX l m f = .ok (rT (deltaD (valsD l) (valsD m) (valQ f.data.toList))) ∧ IsT (rT (deltaD (valsD l) (valsD m) (valQ f.data.toList))) (deltaD (valsD l) (valsD m) (valQ f.data.toList)) := by
  have h := deltaX_fit (j := j) hl hm hf h0 sf hj (by decide)
  exact ⟨h.1, isT_rT h.2⟩
end
end Go.Proofs.YtigapglmipmbeaaGreatDoor
namespace Go.Proofs.YtigapglmipmbeaaGreatDoor
open Go.RowKit Go.Shelf
open Lim
attribute [local go_sem] Oper.semAt_some
theorem LRow.src {w : World} {b o n c : Nat} {ls : List L2} (h : LRow w (.slice (some ⟨b, o, none⟩) n c) ls) (h0 : 0 < ls.length) : ∀ j u, (cellsM ls)[j]? = some u → w.cell? ((⟨b, o, none⟩ : Addr).add j) = some u := by
  obtain ⟨A, c', e, _, hc⟩ := h
  simp only [Value.slice.injEq] at e
  obtain ⟨b', o', e2, _, hcell⟩ := hc h0
  rw [← e.1] at e2
  simp only [Option.some.injEq, Addr.mk.injEq] at e2
  obtain ⟨rfl, rfl, _⟩ := e2
  intro j u hu
  have hj : j < ls.length * 2 := by rw [← cellsM_length]; exact (List.getElem?_eq_some_iff.1 hu).1
  obtain ⟨x, hx⟩ : ∃ x, ls[j / 2]? = some x := ⟨_, List.getElem?_eq_getElem (by omega)⟩
  obtain ⟨c0, c1⟩ := hcell _ _ hx
  obtain ⟨m0, m1⟩ := cellsM_at hx
  rw [addr_add0]
  rcases Nat.mod_two_eq_zero_or_one j with h | h
  · rw [show j / 2 * 2 = j by omega] at c0 m0
    rw [m0] at hu; cases hu; exact c0
  · rw [show o + j / 2 * 2 + 1 = o + j by omega] at c1
    rw [show j / 2 * 2 + 1 = j by omega] at m1
    rw [m1] at hu; cases hu; exact c1
theorem LRow.ofPos {w : World} {v : Value} {ls : List L2} (h : LRow w v ls) (h0 : 0 < ls.length) : ∃ b o c, v = .slice (some ⟨b, o, none⟩) ls.length c := by
  obtain ⟨A, c, e, _, hc⟩ := h
  obtain ⟨b, o, rfl, _, _⟩ := hc h0
  exact ⟨b, o, c, e⟩
theorem OwnM.ofPos {base : Nat} {w : World} {v : Value} {ls : List L2} (h : OwnM base w v ls) (h0 : 0 < ls.length) : ∃ g c, v = .slice (some ⟨g, 0, none⟩) ls.length c ∧ base ≤ g := by
  rcases h.2 with ⟨_, e⟩ | ⟨g, cap, cur, e, hb, _⟩
  · omega
  · exact ⟨g, cap, e, hb⟩
theorem OwnM.cell {base g n c k : Nat} {w : World} {ls : List L2} {x : L2} (h : OwnM base w (.slice (some ⟨g, 0, none⟩) n c) ls) (hx : ls[k]? = some x) : w.cell? ⟨g, k * 2, none⟩ = some (.string x.1) ∧ w.cell? ⟨g, k * 2 + 1, none⟩ = some (.string x.2) ∧ g < w.heap.size := by
  obtain ⟨c0, c1⟩ := cellsM_at hx
  have r0 := World.ownsRow.cells h (g := g) rfl _ _ c0
  have r1 := World.ownsRow.cells h (g := g) rfl _ _ c1
  rw [addr_add0, Nat.zero_add] at r0 r1
  exact ⟨r0, r1, (World.ownsRow.lt h g rfl).2⟩
theorem OwnM.frozen {base g n c : Nat} {w : World} {ls : List L2} (h : OwnM base w (.slice (some ⟨g, 0, none⟩) n c) ls) (j : Nat) : w.frozen? ⟨g, j, none⟩ = false := by
  rcases h.2 with ⟨h', _⟩ | ⟨g', cap', cur, h', _, hg, _⟩
  · simp at h'
  · simp only [Value.slice.injEq, Option.some.injEq, Addr.mk.injEq, and_true, true_and] at h'
    obtain ⟨rfl, _⟩ := h'
    exact frozen_of_row w g j cur _ hg
theorem OwnM.len {base g n c : Nat} {w : World} {ls : List L2} (h : OwnM base w (.slice (some ⟨g, 0, none⟩) n c) ls) : n = ls.length := by
  rcases h.2 with ⟨h', _⟩ | ⟨g', cap', cur, h', _⟩
  · simp at h'
  · simp only [Value.slice.injEq] at h'; exact h'.2.1
theorem cellsM_set1 : ∀ {l : List L2} {k : Nat} {y : L2} (s : ByteArray), l[k]? = some y → cellsM (l.set k (s, y.2)) = (cellsM l).set (k * 2) (.string s)
  | [], k, y, s, h => by simp at h
  | x :: l, 0, y, s, h => by
    simp only [List.getElem?_cons_zero, Option.some.injEq] at h
    subst h
    rfl
  | x :: l, k + 1, y, s, h => by
    rw [List.set_cons_succ, cellsM_cons, cellsM_cons, cellsM_set1 s (by simpa using h), show (k + 1) * 2 = k * 2 + 1 + 1 by omega, List.set_cons_succ, List.set_cons_succ]
theorem OwnM.set1 {base g n c k : Nat} {w : World} {ls : List L2} {y : L2} (s : ByteArray) (h : OwnM base w (.slice (some ⟨g, 0, none⟩) n c) ls) (hy : ls[k]? = some y) :
    OwnM base (w.setCell ⟨g, k * 2, none⟩ (.string s)) (.slice (some ⟨g, 0, none⟩) n c) (ls.set k (s, y.2)) ∧ w.grownBy (w.setCell ⟨g, k * 2, none⟩ (.string s)) (some g) := by
  obtain rfl := h.len
  obtain ⟨r1, r2⟩ := World.ownsRow.stored h (k * 2) (.string s)
  refine ⟨?_, r2⟩
  unfold OwnM
  rw [List.length_set, cellsM_set1 s hy]
  exact r1
theorem set_mid {α : Type} (d : List α) (y z : α) (r : List α) : (d ++ y :: r).set d.length z = d ++ z :: r := by rw [List.set_append_right _ _ (Nat.le_refl _)]; simp
theorem get_mid {α : Type} (d : List α) (y : α) (r : List α) : (d ++ y :: r)[d.length]? = some y := by rw [List.getElem?_append_right (Nat.le_refl _)]; simp
set_option maxRecDepth 100000 in
set_option maxHeartbeats 8000000 in
theorem dclone_any (ls : List L2) (v : Value) (w : World) (hv : LRow w v ls) (h0 : 0 < ls.length) :
    Calls Tryz.prog 120 #[v] w fun e w' => (∃ g c, e = .returned (.slice (some ⟨g, 0, none⟩) ls.length c) ∧ w.heap.size ≤ g ∧ OwnM w.heap.size w' (.slice (some ⟨g, 0, none⟩) ls.length c) ls) ∧ Below w.heap.size w w' := by
  obtain ⟨b, o, c, rfl⟩ := hv.ofPos h0
  have HL := Lib.hid (show ls.length ≤ 1000 from hv.choose_spec.choose_spec.2.1)
  have HS := Lib.hid (hv.below (below_alloc (Below.refl _ _) (.cells #[] 30)))
  have HC := Lib.hid (HS.out.src h0)
  have HO := Lib.hid (own_atM (W := w.alloc (.cells #[] 30)) (Nat.le_refl w.heap.size) (heap_alloc_new w _))
  have HB0 := Lib.hid (below_alloc (Below.refl w.heap.size w) (.cells #[] 30))
  have H0 := Lib.hid h0
  obtain ⟨i0, hi, hz0, hz1, hz2⟩ := info_parts infoM
  have hq := Lib.run_eql_slice_nil (P := Tryz.prog) w 22 30 (some ⟨b, o, none⟩) ls.length c 0 0 Tryz.underlying22
  clear hv h0
  go_enter Tryz.func120, Tryz.ntmps120
  go_wp2_with (at_builtin; refine wpList_append_own _ rfl _ _ 22 rfl w.heap.size 30 i0 (.agg #[.string ByteArray.empty, .string ByteArray.empty]) 2 32 Tryz.underlying22 hi hz0 hz1 hz2 rfl (by decide) _ _ _ rfl HO.out ⟨b, o, none⟩ ls.length c (cellsM ls) rfl (cellsM_length ls) HC.out (one_cellsM ls) (by have := HL.out; unfold maxLen; omega) (by have := HL.out; omega) HB0.out.size ?_; intro v' w4 hown4 hgrow4 _; have HO4 := Lib.hid hown4; have HB4 := Lib.hid (grow_belowM HB0.out HB0.out.size HO.out hgrow4); clear hown4 hgrow4)
  go_ret
  have ho : OwnM w.heap.size w4 v' ls := by
    have := HO4.out
    rwa [Nat.zero_add, List.nil_append] at this
  obtain ⟨g, c4, rfl, hg⟩ := ho.ofPos H0.out
  exact ⟨⟨g, c4, rfl, hg, ho⟩, HB4.out⟩
end Go.Proofs.YtigapglmipmbeaaGreatDoor
namespace Go.Proofs.YtigapglmipmbeaaGreatDoor
open Go.RowKit Go.Shelf
open Lim
attribute [local go_sem] Oper.semAt_some
def SRowT (w : World) (v : Value) (ts : List ByteArray) : Prop :=
  ∃ A c, v = .slice A ts.length c ∧ ts.length ≤ maxLen ∧ (0 < ts.length → ∃ b o, A = some ⟨b, o, none⟩ ∧ b < w.heap.size ∧ ∀ (j : Nat) (x : ByteArray), ts[j]? = some x → w.cell? ⟨b, o + j, none⟩ = some (.string x))
theorem SRowT.below {w w' : World} {v : Value} {ts : List ByteArray} (h : SRowT w v ts) (hb : Below w.heap.size w w') : SRowT w' v ts := by
  obtain ⟨A, c, e, h1, h2⟩ := h
  refine ⟨A, c, e, h1, fun h0 => ?_⟩
  obtain ⟨b, o, e2, hlt, hc⟩ := h2 h0
  exact ⟨b, o, e2, Nat.lt_of_lt_of_le hlt hb.size, fun j x hj => (hb.cell (p := ⟨b, o + j, none⟩) hlt).trans (hc j x hj)⟩
theorem SRowT.at {w W : World} {v : Value} {ts : List ByteArray} (h : SRowT w v ts) (hb : Below w.heap.size w W) {k : Nat} {x : ByteArray} (hx : ts[k]? = some x) :
    ∃ b o c, v = .slice (some ⟨b, o, none⟩) ts.length c ∧ b < W.heap.size ∧ W.cell? ⟨b, o + k, none⟩ = some (.string x) := by
  obtain ⟨A, c, rfl, _, hc⟩ := h
  obtain ⟨b, o, rfl, hlt, hcell⟩ := hc (by have := (List.getElem?_eq_some_iff.1 hx).1; omega)
  exact ⟨b, o, c, rfl, Nat.lt_of_lt_of_le hlt hb.size, (hb.cell (p := ⟨b, o + k, none⟩) hlt).trans (hcell k x hx)⟩
def idxT : Nat → List ByteArray → ByteArray → Int
  | _, [], _ => -1
  | n, x :: l, k => if k = x then (n : Int) else idxT (n + 1) l k
theorem idxT_hit {k x : ByteArray} {n : Nat} {l : List ByteArray} (h : k = x) : idxT n (x :: l) k = (n : Int) := if_pos h
theorem idxT_miss {k x : ByteArray} {n : Nat} {l : List ByteArray} (h : k ≠ x) : idxT n (x :: l) k = idxT (n + 1) l k := if_neg h
theorem idxT_turn {k : ByteArray} : ∀ {f t : List ByteArray} {n : Nat}, f.length = t.length → (idxT n f k = -1 ∧ turnX (f.zip t) k = k) ∨ ∃ (i : Nat) (y : ByteArray), idxT n f k = ((n + i : Nat) : Int) ∧ i < f.length ∧ t[i]? = some y ∧ turnX (f.zip t) k = y
  | [], t, n, _ => .inl ⟨rfl, by simp [turnX]⟩
  | x :: f, [], n, h => by simp at h
  | x :: f, y :: t, n, h => by
    by_cases hx : k = x
    · exact .inr ⟨0, y, by rw [idxT_hit hx]; rfl, by simp, rfl, by simp only [List.zip_cons_cons, turnX]; rw [if_pos hx.symm]⟩
    · have e : turnX ((x :: f).zip (y :: t)) k = turnX (f.zip t) k := by simp only [List.zip_cons_cons, turnX]; rw [if_neg (fun h => hx h.symm)]
      rw [idxT_miss hx, e]
      rcases idxT_turn (k := k) (f := f) (t := t) (n := n + 1) (by simpa using h) with h1 | ⟨i, z, h1, h2, h3, h4⟩
      · exact .inl h1
      · exact .inr ⟨i + 1, z, by rw [h1]; congr 1; omega, by simp; omega, by simpa using h3, h4⟩
set_option maxRecDepth 100000 in
set_option maxHeartbeats 8000000 in
theorem dindex_any (ts : List ByteArray) (v : Value) (key : ByteArray) (w : World) (hv : SRowT w v ts) :
    Calls Tryz.prog 121 #[v, .string key] w fun e w' => e = .returned (.int .i64 (idxT 0 ts key)) ∧ w' = w := by
  have HV := Lib.hid hv
  obtain ⟨A, c, rfl, HLEN, hcells⟩ := hv
  unfold maxLen at HLEN
  clear hcells
  generalize hm : idxT 0 ts key = mk
  have HMK := Lib.hid hm
  clear hm
  go_enter Tryz.func121, Tryz.ntmps121
  go_wp2
  go_loopw [8] (fun v8 wr => w = wr ∧ ∃ k : Nat, k ≤ ts.length ∧ v8 = .int .i64 (k : Int) ∧ Hid (mk = idxT k (ts.drop k) key)) (fun v8 _ => ts.length - (intOf v8).toNat)
  case atStart => exact ⟨rfl, 0, Nat.zero_le _, rfl, Lib.hid (by simpa using HMK.out.symm)⟩
  case round =>
    obtain ⟨rfl, k, hk, rfl, HE⟩ := hrel
    by_cases hlt : k < ts.length
    · obtain ⟨x, hx⟩ : ∃ x, ts[k]? = some x := ⟨_, List.getElem?_eq_getElem hlt⟩
      obtain ⟨b, o, c', e', hb2, c0⟩ := HV.out.at (Below.refl _ _) hx
      simp only [Value.slice.injEq, true_and] at e'
      obtain ⟨rfl, rfl⟩ := e'
      have hlt' : (k : Int) < (ts.length : Int) := by omega
      have hd : ts.drop k = x :: ts.drop (k + 1) := by
        obtain ⟨h1, rfl⟩ := List.getElem?_eq_some_iff.1 hx
        exact drop_at h1
      rw [hd] at HE
      have HLT := Lib.hid (And.intro hlt hlt')
      have TE := eq_bytes key x
      clear hd hx hlt
      by_cases he : key = x
      · rw [decide_eq_true he] at TE
        have HR := Lib.hid (show mk = (k : Int) by rw [HE.out, idxT_hit he])
        clear he
        go_wp2
        go_ret
        rw [HR.out]
        exact ⟨rfl, rfl⟩
      · rw [decide_eq_false he] at TE
        have HR := Lib.hid (show mk = idxT (k + 1) (ts.drop (k + 1)) key by rw [HE.out, idxT_miss he])
        clear he
        go_wp2
        go_roundw
        case rel => exact ⟨trivial, k + 1, HLT.out.1, by go_num, HR⟩
        case measure => have := HLT.out.1; simp [intOf]; omega
    · have hlt' : ¬ (k : Int) < (ts.length : Int) := by omega
      have HR := Lib.hid (show mk = -1 by rw [HE.out, List.drop_of_length_le (by omega)]; rfl)
      clear hlt
      go_wp2
      go_ret
      rw [HR.out]
      exact ⟨rfl, rfl⟩
set_option maxRecDepth 100000 in
set_option maxHeartbeats 16000000 in
theorem dpush_any (ls : List L2) (f t : List ByteArray) (v vf vt : Value) (w : World) (hv : LRow w v ls) (hf : SRowT w vf f) (ht : SRowT w vt t) (hs : Short ls) (htk : ∀ x ∈ t, x.size ≤ 270000) (hr : Res w) :
    Calls Tryz.prog 31 #[v, vf, vt] w fun e w' => ResM w.heap.size (pushX ls f t) e w' ∧ Below w.heap.size w w' := by
  have HV := Lib.hid hv
  have HF := Lib.hid hf
  have HT := Lib.hid ht
  have HS := Lib.hid hs
  have HTK := Lib.hid htk
  have HRS := Lib.hid hr
  have HCK := Lib.hid (dcheck_any ls v w hv hs hr)
  have N0 := Lib.hid (NW.refl hr)
  have hll : ls.length ≤ 1000 := hv.choose_spec.choose_spec.2.1
  have HLL := Lib.hid hll
  obtain ⟨A0, c0, rfl, _, _⟩ := id hv
  obtain ⟨A1, c1, rfl, hl1, _⟩ := id hf
  obtain ⟨A2, c2, rfl, hl2, _⟩ := id ht
  unfold maxLen at hl1 hl2
  clear hv hf ht hs hr htk
  generalize hm : pushX ls f t = mk
  have HMK := Lib.hid hm
  clear hm
  have TK0 : True := trivial
  by_cases hc : chkD ls = 0
  · by_cases hl : f.length = t.length
    · have h0 : 0 < ls.length := by
        rcases Nat.eq_zero_or_pos ls.length with h | h
        · have e := List.eq_nil_of_length_eq_zero h
          subst e
          exact absurd hc (by decide)
        · exact h
      have HCL := Lib.hid (fun (W : World) (hW : NW w W) => dclone_any ls _ W (HV.out.below hW.below) h0)
      have HR := Lib.hid (show mk = makeX (ls.map fun x => (turnX (f.zip t) x.1, x.2)) by rw [← HMK.out]; unfold pushX; rw [if_neg (by simpa using hc), if_neg (by simpa using hl)])
      rw [hc] at HCK
      change Hid (Calls _ _ _ _ fun e w' => e = .returned (.int .i64 0) ∧ _) at HCK
      rw [← hl] at HT ⊢
      have HTU := Lib.hid (fun k => idxT_turn (k := k) (f := f) (t := t) (n := 0) hl)
      have HLE := Lib.hid hl
      clear hc h0 hl
      have TK1 : True := trivial
      go_enter Tryz.func31, Tryz.ntmps31
      go_wp2_with ((clear TK0; go_at_call 36; refine HCK.out.mono ?_; rintro e w1 ⟨rfl, hb⟩; have N1 := Lib.hid (N0.out.later hb); clear hb))
      go_wp2_with ((clear TK1; go_at_call 120; refine (HCL.out _ N1.out).mono ?_; rintro e w2 ⟨⟨g, cc, rfl, hg, ho⟩, hb⟩; have HG := Lib.hid (Nat.le_trans N1.out.below.size hg); have HO := Lib.hid (owns_base ho N1.out.below.size); have N2 := Lib.hid (N1.out.later hb); clear hg ho hb))
      go_loopw [26] (fun v26 wr => ∃ k : Nat, k ≤ ls.length ∧ v26 = .int .i64 (k : Int) ∧ Hid (OwnM w.heap.size wr (.slice (some ⟨g, 0, none⟩) ls.length cc) ((ls.take k).map (fun x => (turnX (f.zip t) x.1, x.2)) ++ ls.drop k)) ∧ Hid (NW w wr)) (fun v26 _ => ls.length - (intOf v26).toNat)
      case atStart => exact ⟨0, Nat.zero_le _, rfl, HO, N2⟩
      case round =>
        clear HO N2
        obtain ⟨k, hk, rfl, HO, HN⟩ := hrel
        by_cases hlt : k < ls.length
        · obtain ⟨x, hx⟩ : ∃ x, ls[k]? = some x := ⟨_, List.getElem?_eq_getElem hlt⟩
          have hlt' : (k : Int) < (ls.length : Int) := by omega
          have hkl : ((ls.take k).map fun x : L2 => (turnX (f.zip t) x.1, x.2)).length = k := by rw [List.length_map, List.length_take]; omega
          have hg1 : ((ls.take k).map (fun x : L2 => (turnX (f.zip t) x.1, x.2)) ++ ls.drop k)[k]? = some x := by
            rw [drop_of hx]
            have := get_mid ((ls.take k).map fun x : L2 => (turnX (f.zip t) x.1, x.2)) x (ls.drop (k + 1))
            rwa [hkl] at this
          have HGX := Lib.hid hg1
          have HST := Lib.hid (show ∀ z : L2, z = (turnX (f.zip t) x.1, x.2) → ((ls.take k).map (fun x : L2 => (turnX (f.zip t) x.1, x.2)) ++ ls.drop k).set k z = (ls.take (k + 1)).map (fun x : L2 => (turnX (f.zip t) x.1, x.2)) ++ ls.drop (k + 1) from fun z hz => by
            rw [drop_of hx, List.take_add_one, hx, Option.toList_some, List.map_append, hz]
            have := set_mid ((ls.take k).map fun x : L2 => (turnX (f.zip t) x.1, x.2)) x (turnX (f.zip t) x.1, x.2) (ls.drop (k + 1))
            rw [hkl] at this
            rw [this]
            simp)
          have HTX := HTU.out x.1
          obtain ⟨p0, p1, hgb⟩ := HO.out.cell hg1
          have HIX := Lib.hid (fun (W : World) (hW : NW w W) => dindex_any f _ x.1 W (HF.out.below hW.below))
          have HLT := Lib.hid (And.intro hlt hlt')
          have TK2 : True := trivial
          clear hg1 hlt hkl hx
          rcases HTX with ⟨h1, h2⟩ | ⟨i, y, h1, h2, h3, h4⟩
          · rw [h1] at HIX
            have HS2 := Lib.hid (show (ls.take (k + 1)).map (fun x : L2 => (turnX (f.zip t) x.1, x.2)) ++ ls.drop (k + 1) = (ls.take k).map (fun x : L2 => (turnX (f.zip t) x.1, x.2)) ++ ls.drop k by
              rw [← HST.out x (by rw [h2])]
              exact List.ext_getElem? fun j => by
                rw [List.getElem?_set]
                split
                · rename_i e; subst e; rw [HGX.out, if_pos (List.getElem?_eq_some_iff.1 HGX.out).1]
                · rfl)
            clear h1 h2
            go_wp2_with ((clear TK2; go_at_call 121; refine (HIX.out _ HN.out).mono ?_; rintro e w5 ⟨rfl, hw⟩; subst hw))
            go_roundw
            case rel => exact ⟨k + 1, HLT.out.1, by go_num, Lib.hid (by rw [HS2.out]; exact HO.out), HN⟩
            case measure => have := HLT.out.1; simp [intOf]; omega
          · rw [h1, Nat.zero_add] at HIX
            have hi0 : (0 : Int) ≤ (i : Int) := by omega
            have hi1 : (i : Int) < (f.length : Int) := by omega
            obtain ⟨b3, o3, c3, e3, hb3, t0⟩ := HT.out.at HN.out.below h3
            simp only [Value.slice.injEq] at e3
            obtain ⟨rfl, h9, rfl⟩ := e3
            clear h9
            have HS2 := Lib.hid (HST.out (y, x.2) (by rw [h4]))
            have fz := OwnM.frozen HO.out (k * 2)
            clear h1 h2 h3 h4
            go_wp2_with ((clear TK2; go_at_call 121; refine (HIX.out _ HN.out).mono ?_; rintro e w5 ⟨rfl, hw⟩; subst hw))
            go_roundw
            case rel =>
              obtain ⟨r1, r2⟩ := OwnM.set1 y HO.out HGX.out
              exact ⟨k + 1, HLT.out.1, by go_num, Lib.hid (by rw [← HS2.out]; exact r1), Lib.hid (grow_nw HN.out HRS.out r2 (fun r e => by cases e; exact HG.out))⟩
            case measure => have := HLT.out.1; simp [intOf]; omega
        · have hlt' : ¬ (k : Int) < (ls.length : Int) := by omega
          obtain rfl : k = ls.length := by omega
          rw [List.take_length, List.drop_length, List.append_nil] at HO
          have hsm : Short (ls.map fun x => (turnX (f.zip t) x.1, x.2)) := fun z hz => by
            obtain ⟨x, hx, rfl⟩ := List.mem_map.1 hz
            refine ⟨?_, (HS.out x hx).2⟩
            rcases HTU.out x.1 with ⟨_, h2⟩ | ⟨i, y, _, _, h3, h4⟩
            · show (turnX (f.zip t) x.1).size ≤ _
              rw [h2]; exact (HS.out x hx).1
            · show (turnX (f.zip t) x.1).size ≤ _
              rw [h4]; exact HTK.out y (List.mem_of_getElem? h3)
          have HMC := Lib.hid (dmake_any _ _ wr (HO.out.row (by rw [List.length_map]; exact HLL.out)) hsm HN.out.res)
          have TK2 : True := trivial
          rw [← HR.out] at HMC
          clear hlt hsm
          cases mk with
          | error n =>
            change Hid (Calls _ _ _ _ fun e w' => e = .returned (.tuple #[.slice none 0 0, .int .i64 (n : Int)]) ∧ _) at HMC
            go_wp2_with ((clear TK2; go_at_call 25; refine HMC.out.mono ?_; rintro e w5 ⟨rfl, hb⟩; have N5 := Lib.hid (HN.out.later hb); clear hb))
            go_ret2
            exact ⟨rfl, N5.out.below⟩
          | ok d =>
            change Hid (Calls _ _ _ _ fun e w' => (∃ u, e = .returned (.tuple #[u, .int .i64 0]) ∧ OwnM _ w' u d) ∧ _) at HMC
            go_wp2_with ((clear TK2; go_at_call 25; refine HMC.out.mono ?_; rintro e w5 ⟨⟨u, rfl, ho⟩, hb⟩; have N5 := Lib.hid (HN.out.later hb); have HO5 := Lib.hid (owns_base ho HN.out.below.size); clear ho hb))
            go_ret2
            exact ⟨⟨_, rfl, HO5.out⟩, N5.out.below⟩
    · have HR := Lib.hid (show mk = .error 3 by rw [← HMK.out]; unfold pushX; rw [if_neg (by simpa using hc), if_pos hl])
      rw [hc] at HCK
      change Hid (Calls _ _ _ _ fun e w' => e = .returned (.int .i64 0) ∧ _) at HCK
      have hl' : ((f.length : Int) == (t.length : Int)) = false := by rw [beq_eq_false_iff_ne]; omega
      have hl3 : ((f.length : Int) != (t.length : Int)) = true := by unfold bne; rw [hl']; rfl
      clear hc hl
      go_enter Tryz.func31, Tryz.ntmps31
      go_wp2_with ((clear TK0; go_at_call 36; refine HCK.out.mono ?_; rintro e w1 ⟨rfl, hb⟩; have N1 := Lib.hid (N0.out.later hb); clear hb))
      go_wp2
      go_ret2
      rw [HR.out]
      exact ⟨rfl, N1.out.below⟩
  · have hz := ne_zero hc
    have hz2 := ne_zero2 hc
    have HR := Lib.hid (show mk = .error (chkD ls) by rw [← HMK.out]; unfold pushX; rw [if_pos hc])
    generalize chkD ls = n at *
    clear hc
    go_enter Tryz.func31, Tryz.ntmps31
    go_wp2_with ((clear TK0; go_at_call 36; refine HCK.out.mono ?_; rintro e w1 ⟨rfl, hb⟩; have N1 := Lib.hid (N0.out.later hb); clear hb))
    go_wp2
    go_ret2
    rw [HR.out]
    exact ⟨rfl, N1.out.below⟩
end Go.Proofs.YtigapglmipmbeaaGreatDoor
namespace Go.Proofs.YtigapglmipmbeaaGreatDoor
open Go.RowKit Go.Shelf
def LSRow (w : World) (v : Value) (lss : List (List ByteArray)) : Prop := ∃ b c, v = .slice (some ⟨b, 0, none⟩) lss.length c ∧ b < w.heap.size ∧ lss.length ≤ 8 ∧
  ∀ (j : Nat) (ls : List ByteArray), lss[j]? = some ls → ∃ u, w.cell? ⟨b, j, none⟩ = some u ∧ SRowT w u ls
theorem LSRow.ofBlk {w : World} {b : Nat} {t : TypeId} {vs : List (Value × List ByteArray)} {n c : Nat} (h : Blk w b t (vs.map (·.1)).toArray) (hn : n = vs.length) (hl : vs.length ≤ 8) (hv : ∀ x ∈ vs, SRowT w x.1 x.2) : LSRow w (.slice (some ⟨b, 0, none⟩) n c) (vs.map (·.2)) := by
  subst hn
  refine ⟨b, c, by rw [List.length_map], h.lt, by rw [List.length_map]; exact hl, fun j ls hj => ?_⟩
  rw [List.getElem?_map] at hj
  cases hx : vs[j]? with
  | none => rw [hx] at hj; cases hj
  | some x =>
    rw [hx] at hj
    cases hj
    exact ⟨x.1, by rw [h.cell]; simp [hx], hv x (List.mem_of_getElem? hx)⟩
def nameD (ls : List ByteArray) : Bool := decide (ls.length ≤ 16) && ls.all fun x => decide (x.size ≤ 12)
def namesD (lss : List (List ByteArray)) : Bool := lss.all nameD
theorem nameD_iff {ls : List ByteArray} : nameD ls = true ↔ ls.length ≤ 16 ∧ ∀ x ∈ ls, x.size ≤ 12 := by
  unfold nameD
  rw [Bool.and_eq_true, decide_eq_true_eq, List.all_eq_true]
  simp only [decide_eq_true_eq]
theorem nameD_len {ls : List ByteArray} (h : ¬ ls.length ≤ 16) : nameD ls = false := by unfold nameD; rw [decide_eq_false h]; rfl
theorem nameD_at {j : Nat} {x : ByteArray} {ls : List ByteArray} (hx : ls[j]? = some x) (h : ¬ x.size ≤ 12) : nameD ls = false := by
  cases e : nameD ls with
  | false => rfl
  | true => exact absurd ((nameD_iff.1 e).2 x (List.mem_of_getElem? hx)) h
theorem nameD_of {ls : List ByteArray} (h : ls.length ≤ 16) (h2 : ∀ (j : Nat) x, ls[j]? = some x → x.size ≤ 12) : nameD ls = true := nameD_iff.2 ⟨h, fun x hx => by
  obtain ⟨j, hj⟩ := List.getElem?_of_mem hx
  exact h2 j x hj⟩
theorem namesD_at {j : Nat} {ls : List ByteArray} {lss : List (List ByteArray)} (hx : lss[j]? = some ls) (h : nameD ls = false) : namesD lss = false := by
  unfold namesD
  rw [List.all_eq_false]
  exact ⟨ls, List.mem_of_getElem? hx, by rw [h]; decide⟩
theorem namesD_of {lss : List (List ByteArray)} (h : ∀ (j : Nat) ls, lss[j]? = some ls → nameD ls = true) : namesD lss = true := by
  unfold namesD
  rw [List.all_eq_true]
  intro ls hl
  obtain ⟨j, hj⟩ := List.getElem?_of_mem hl
  exact h j ls hj
set_option maxRecDepth 100000 in
set_option maxHeartbeats 8000000 in
theorem names8_any (lss : List (List ByteArray)) (v : Value) (w : World) (hv : LSRow w v lss) :
    Calls Tryz.prog 23 #[v] w fun e w' => e = .returned (.bool (namesD lss)) ∧ w' = w := by
  obtain ⟨b, c, rfl, hb, hlen, hcell⟩ := hv
  have HC := Lib.hid hcell
  clear hcell
  go_enter Tryz.func23, Tryz.ntmps23
  go_wp2
  go_loopw [3] (fun v3 wr => ∃ i : Nat, i ≤ lss.length ∧ v3 = .int .i64 (i : Int) ∧ Hid (∀ (j : Nat) ls, j < i → lss[j]? = some ls → nameD ls = true) ∧ wr = w) (fun v3 _ => lss.length - (intOf v3).toNat)
  case atStart => exact ⟨0, Nat.zero_le _, rfl, Lib.hid (fun j ls h => absurd h (by omega)), rfl⟩
  case round =>
    obtain ⟨i, hi, rfl, HE, rfl⟩ := hrel
    by_cases hlt : i < lss.length
    · obtain ⟨ls, hls⟩ : ∃ ls, lss[i]? = some ls := ⟨_, List.getElem?_eq_getElem hlt⟩
      obtain ⟨u, cu, hu⟩ := HC.out i ls hls
      have HU := Lib.hid hu
      obtain ⟨A, cc, rfl, hl, _⟩ := hu
      unfold maxLen at hl
      have hlt' : (i : Int) < (lss.length : Int) := by omega
      have HLS := Lib.hid (And.intro hls hlt)
      clear hls hlt
      by_cases h1 : ls.length ≤ 16
      · have d1 : decide (16 < (ls.length : Int)) = false := decide_eq_false (by omega)
        have d1n : decide (16 < ls.length) = false := decide_eq_false (by omega)
        obtain ⟨wo, rfl⟩ : ∃ wo, wo = wr := ⟨_, rfl⟩
        go_wp2
        go_loopw [4] (fun v4 wr => ∃ k : Nat, k ≤ ls.length ∧ v4 = .int .i64 (k : Int) ∧ Hid (∀ (j : Nat) x, j < k → ls[j]? = some x → x.size ≤ 12) ∧ wr = wo) (fun v4 _ => ls.length - (intOf v4).toNat)
        case atStart => exact ⟨0, Nat.zero_le _, rfl, Lib.hid (fun j x h => absurd h (by omega)), rfl⟩
        case round =>
          obtain ⟨k, hk, rfl, HF, rfl⟩ := hrel
          by_cases hk2 : k < ls.length
          · obtain ⟨x, hx⟩ : ∃ x, ls[k]? = some x := ⟨_, List.getElem?_eq_getElem hk2⟩
            obtain ⟨b1, o1, c1', e1, hb1, c0⟩ := HU.out.at (Below.refl _ _) hx
            simp only [Value.slice.injEq, true_and] at e1
            obtain ⟨rfl, rfl⟩ := e1
            have hk2' : (k : Int) < (ls.length : Int) := by omega
            have HX := Lib.hid (And.intro hx hk2)
            clear hx hk2
            by_cases g1 : x.size ≤ 12
            · have t1 : decide (12 < (x.size : Int)) = false := decide_eq_false (by omega)
              have t1n : decide (12 < x.size) = false := decide_eq_false (by omega)
              have HS := Lib.hid g1
              clear g1
              go_wp2
              go_roundw
              case rel => exact ⟨k + 1, HX.out.2, by go_num, Lib.hid (fun j y hj hxj => by
                rcases Nat.lt_or_ge j k with h | h
                · exact HF.out j y h hxj
                · obtain rfl : j = k := by omega
                  rw [HX.out.1] at hxj
                  cases hxj
                  exact HS.out), trivial⟩
              case measure => have := HX.out.2; simp [intOf]; omega
            · have t1 : decide (12 < (x.size : Int)) = true := decide_eq_true (by omega)
              have t1n : decide (12 < x.size) = true := decide_eq_true (by omega)
              have HR := Lib.hid (namesD_at HLS.out.1 (nameD_at HX.out.1 g1))
              clear g1
              go_wp2
              go_ret
              rw [HR.out]
              exact ⟨rfl, rfl⟩
          · have hk2' : ¬ (k : Int) < (ls.length : Int) := by omega
            have HR := Lib.hid (nameD_of h1 fun j x hx => HF.out j x (by have := (List.getElem?_eq_some_iff.1 hx).1; omega) hx)
            clear hk2
            go_wp2
            go_roundw
            case rel => exact ⟨i + 1, HLS.out.2, by go_num, Lib.hid (fun j l hj hlj => by
              rcases Nat.lt_or_ge j i with h | h
              · exact HE.out j l h hlj
              · obtain rfl : j = i := by omega
                rw [HLS.out.1] at hlj
                cases hlj
                exact HR.out), trivial⟩
            case measure => have := HLS.out.2; simp [intOf]; omega
      · have d1 : decide (16 < (ls.length : Int)) = true := decide_eq_true (by omega)
        have d1n : decide (16 < ls.length) = true := decide_eq_true (by omega)
        have HR := Lib.hid (namesD_at HLS.out.1 (nameD_len h1))
        clear h1
        go_wp2
        go_ret
        rw [HR.out]
        exact ⟨rfl, rfl⟩
    · have hlt' : ¬ (i : Int) < (lss.length : Int) := by omega
      have HR := Lib.hid (namesD_of fun j ls hj => HE.out j ls (by have := (List.getElem?_eq_some_iff.1 hj).1; omega) hj)
      clear hlt
      go_wp2
      go_ret
      rw [HR.out]
      exact ⟨rfl, rfl⟩
end Go.Proofs.YtigapglmipmbeaaGreatDoor
namespace Go.Proofs.YtigapglmipmbeaaGreatDoor
open Go.RowKit Go.Shelf
open Lim
attribute [local go_sem] Oper.semAt_some
def LaterW.lift {w0 : World} (z : LaterW w0) (z' : LaterW z.W) : LaterW w0 := ⟨z'.W, z.h.trans (z'.h.mono z.h.size)⟩
theorem make_short {d l : List L2} (h : makeX l = .ok d) (hl : Short l) (h2 : l.length ≤ 1000) : Short d ∧ d.length ≤ 1000 := ⟨Short.make h hl, make_len h h2⟩
theorem push_make {ls d : List L2} {f t : List ByteArray} (h : pushX ls f t = .ok d) : makeX (ls.map fun x => (turnX (f.zip t) x.1, x.2)) = .ok d ∧ f.length = t.length := by
  unfold pushX at h
  split at h
  · cases h
  · split at h
    · cases h
    · rename_i h2
      exact ⟨h, Classical.byContradiction h2⟩
theorem push_short {ls d : List L2} {f t : List ByteArray} (h : pushX ls f t = .ok d) (hs : Short ls) (ht : ∀ x ∈ t, x.size ≤ 270000) (hl : ls.length ≤ 1000) : Short d ∧ d.length ≤ 1000 := by
  obtain ⟨h1, h2⟩ := push_make h
  refine make_short h1 (fun z hz => ?_) (by rw [List.length_map]; exact hl)
  obtain ⟨x, hx, rfl⟩ := List.mem_map.1 hz
  refine ⟨?_, (hs x hx).2⟩
  rcases idxT_turn (k := x.1) (n := 0) h2 with ⟨_, e⟩ | ⟨i, y, _, _, h3, h4⟩
  · show (turnX (f.zip t) x.1).size ≤ _
    rw [e]; exact (hs x hx).1
  · show (turnX (f.zip t) x.1).size ≤ _
    rw [h4]; exact ht y (List.mem_of_getElem? h3)
set_option maxRecDepth 100000 in
set_option maxHeartbeats 16000000 in
theorem distPushes_any (a b : List L2) (va vb : Value) (f : ByteArray) (fr tn : List ByteArray) (vf vt : Value) (w : World) (ha : LRowW w va a) (hb : LRowW w vb b) (hf : f.size ≤ maxLen) (hfr : SRowT w vf fr) (hto : SRowT w vt tn) (hr : Res w) :
    Calls Tryz.prog 19 #[va, vb, .string f, vf, vt] w fun e w' => e = .returned (.bool true) ∧ Below w.heap.size w w' := by
  have N0 := Lib.hid (NW.refl hr)
  have HLV := Lib.hid (fun (w : World) hr => dlives_any w hr)
  have HMD := Lib.hid (fun (W : World) (hW : NW w W) => made8_any [a, b] (.slice (some ⟨W.heap.size, 0, none⟩) 2 2) (W.alloc (.cells #[va, vb] 22))
    (LLRow.ofBlk (vs := [(va, a), (vb, b)]) (Blk.new W 22 #[va, vb]) rfl (by simp) (fun x hx => by
      have hbw := below_alloc hW.below (.cells #[va, vb] 22)
      simp only [List.mem_cons, List.not_mem_nil, or_false] at hx
      rcases hx with rfl | rfl
      · exact ha.below hbw
      · exact hb.below hbw
    )) (by simp) (hW.alloc _).res rdmake_any)
  obtain ⟨A0, c0, rfl, _, _⟩ := id ha
  obtain ⟨A1, c1, rfl, _, _⟩ := id hb
  clear ha hb hr
  have HFR := Lib.hid hfr
  have HTO := Lib.hid hto
  obtain ⟨Af, cf, rfl, hlf, _⟩ := hfr
  obtain ⟨At, ct, rfl, hlt, _⟩ := hto
  unfold maxLen at hlf hlt
  have TK0 : True := trivial
  have TK1 : True := trivial
  cases hm : madeD 16 12 24 [a, b] with
  | none =>
    rw [hm] at HMD
    change Hid (∀ W (_ : NW w W), Calls _ _ _ _ fun e w' => e = .returned (.tuple #[.slice none 0 0, .bool false]) ∧ _) at HMD
    clear hm
    go_enter Tryz.func19, Tryz.ntmps19
    go_wp2_with ((clear TK0; go_at_call 21; refine (HLV.out _ N0.out.res).mono ?_; rintro e w1 ⟨rfl, hb⟩; have N1 := Lib.hid (N0.out.later hb); clear hb))
    go_wp2_with ((clear TK1; go_at_call 97; refine (HMD.out _ N1.out).mono ?_; rintro e w2 ⟨rfl, hb⟩; have N2 := Lib.hid ((N1.out.alloc _).later hb); clear hb))
    go_wp2
    go_ret
    exact ⟨rfl, N2.out.below⟩
  | some outs =>
    obtain ⟨hol, hod⟩ := Made8.of hm
    obtain ⟨l0, l1, rfl⟩ : ∃ l0 l1, outs = [l0, l1] := by
      match outs, hol with
      | [x0, x1], _ => exact ⟨x0, x1, rfl⟩
    rw [hm] at HMD
    change Hid (∀ W (_ : NW w W), Calls _ _ _ _ fun e w' => (∃ u, e = .returned (.tuple #[u, .bool true]) ∧ LLRow w' u [l0, l1]) ∧ _) at HMD
    have M0 := hod l0 (by simp)
    have M1 := hod l1 (by simp)
    clear hm hol hod
    have HNB := Lib.hid (fun (W : World) hr => dnumber_any f W hf hr)
    have TK2 : True := trivial
    cases hnb : numberB f with
    | false =>
      rw [hnb] at HNB
      clear hnb M0 M1
      go_enter Tryz.func19, Tryz.ntmps19
      go_wp2_with ((clear TK0; go_at_call 21; refine (HLV.out _ N0.out.res).mono ?_; rintro e w1 ⟨rfl, hb⟩; have N1 := Lib.hid (N0.out.later hb); clear hb))
      go_wp2_with ((clear TK1; go_at_call 97; refine (HMD.out _ N1.out).mono ?_; rintro e w2 ⟨⟨u, rfl, hl⟩, hb⟩; obtain ⟨bb, cc, rfl, hbb, _, hcell⟩ := hl; have HCL := Lib.hid (And.intro hbb hcell); have N2 := Lib.hid ((N1.out.alloc _).later hb); clear hb hbb hcell))
      obtain ⟨B0, k0, y0, rr⟩ := LLRow.nth (j := 0) (l := l0) HCL.out.1 HCL.out.2 rfl
      have R0 := Lib.hid rr
      clear rr
      obtain ⟨B1, k1, y1, rr⟩ := LLRow.nth (j := 1) (l := l1) HCL.out.1 HCL.out.2 rfl
      have R1 := Lib.hid rr
      clear rr
      have RS := Lib.hid (fun z : LaterW w2 => N2.out.res.below z.h)
      clear HCL
      go_wp2_with ((clear TK2; go_at_call 98; refine (HNB.out _ (RS.out ⟨w2, Below.refl _ _⟩)).mono ?_; rintro e w9 ⟨rfl, hb9⟩; obtain ⟨z0, rfl⟩ := LaterW.step ⟨w2, Below.refl _ _⟩ hb9; clear hb9))
      go_wp2
      go_ret
      exact ⟨rfl, (N2.out.later z0.h).below⟩
    | true =>
      obtain ⟨fz, fe, fp⟩ := numberB_ok hnb
      have fs := sz_of_text fe (k := 24) (by rw [← size_list]; exact fz)
      rw [hnb] at HNB
      clear hnb
      have HDX := fac_delta M0.dst M1.dst fe fp fs (by decide)
      have HDC := Lib.hid (fun u v W (hu : LRow W u l0) (hv : LRow W v l1) (hr : Res W) => ddelta_any l0 l1 u v f W hu hv M0.short M1.short (by omega) hr)
      rw [HDX.1] at HDC
      have TK3 : True := trivial
      cases hnm : namesD [fr, tn] with
      | false =>
        clear HDX HDC fe fp fs fz M0 M1
        go_enter Tryz.func19, Tryz.ntmps19
        go_wp2_with ((clear TK0; go_at_call 21; refine (HLV.out _ N0.out.res).mono ?_; rintro e w1 ⟨rfl, hb⟩; have N1 := Lib.hid (N0.out.later hb); clear hb))
        go_wp2_with ((clear TK1; go_at_call 97; refine (HMD.out _ N1.out).mono ?_; rintro e w2 ⟨⟨u, rfl, hl⟩, hb⟩; obtain ⟨bb, cc, rfl, hbb, _, hcell⟩ := hl; have HCL := Lib.hid (And.intro hbb hcell); have N2 := Lib.hid ((N1.out.alloc _).later hb); clear hb hbb hcell))
        obtain ⟨B0, k0, y0, rr⟩ := LLRow.nth (j := 0) (l := l0) HCL.out.1 HCL.out.2 rfl
        have R0 := Lib.hid rr
        clear rr
        obtain ⟨B1, k1, y1, rr⟩ := LLRow.nth (j := 1) (l := l1) HCL.out.1 HCL.out.2 rfl
        have R1 := Lib.hid rr
        clear rr
        have RS := Lib.hid (fun z : LaterW w2 => N2.out.res.below z.h)
        clear HCL
        go_wp2_with ((clear TK2; go_at_call 98; refine (HNB.out _ (RS.out ⟨w2, Below.refl _ _⟩)).mono ?_; rintro e w9 ⟨rfl, hb9⟩; obtain ⟨z0, rfl⟩ := LaterW.step ⟨w2, Below.refl _ _⟩ hb9; clear hb9))
        have HNM := Lib.hid (fun z : LaterW w2 => names8_any [fr, tn] (.slice (some ⟨z.W.heap.size, 0, none⟩) 2 2) (z.W.alloc (.cells #[.slice Af fr.length cf, .slice At tn.length ct] 24))
        (LSRow.ofBlk (vs := [(.slice Af fr.length cf, fr), (.slice At tn.length ct, tn)]) (Blk.new z.W 24 #[.slice Af fr.length cf, .slice At tn.length ct]) rfl (by simp) (fun x hx => by
          have hb := below_alloc (N2.out.later z.h).below (.cells #[.slice Af fr.length cf, .slice At tn.length ct] 24)
          simp only [List.mem_cons, List.not_mem_nil, or_false] at hx
          rcases hx with rfl | rfl
          · exact HFR.out.below hb
          · exact HTO.out.below hb)))
        change Hid (∀ z : LaterW w2, Calls _ _ _ _ fun e w' => e = .returned (.bool (namesD [fr, tn])) ∧ _) at HNM
        rw [hnm] at HNM
        go_wp2_with ((clear TK3; go_at_call 23; refine (HNM.out z0).mono ?_; rintro e w9 ⟨rfl, hw9⟩; subst hw9; obtain ⟨z1, hz1⟩ := LaterW.step z0 (below_alloc (Below.refl _ _) (.cells #[.slice Af fr.length cf, .slice At tn.length ct] 24)); rw [hz1]; clear hz1))
        go_wp2
        go_ret
        exact ⟨rfl, (N2.out.later z1.h).below⟩
      | true =>
        by_cases hl : fr.length = tn.length
        · have hl' : ((fr.length : Int) == (tn.length : Int)) = true := by rw [beq_iff_eq]; omega
          have hl3 : ((fr.length : Int) != (tn.length : Int)) = false := by unfold bne; rw [hl']; rfl
          have htk : ∀ x ∈ tn, x.size ≤ 270000 := fun x hx => Nat.le_trans ((nameD_iff.1 (List.all_eq_true.1 hnm tn (by simp))).2 x hx) (by omega)
          obtain ⟨x, ex, dx, mx⟩ := push_dst M0.dst hl (by decide)
          obtain ⟨y, ey, dy, my⟩ := push_dst M1.dst hl (by decide)
          obtain ⟨sx, lx⟩ := push_short ex M0.short htk (Nat.le_trans M0.len (by omega))
          obtain ⟨sy, ly⟩ := push_short ey M1.short htk (Nat.le_trans M1.len (by omega))
          have HPX := Lib.hid (fun u uf ut W (hu : LRow W u l0) (hf : SRowT W uf fr) (ht : SRowT W ut tn) (hr : Res W) => dpush_any l0 fr tn u uf ut W hu hf ht M0.short htk hr)
          have HPY := Lib.hid (fun u uf ut W (hu : LRow W u l1) (hf : SRowT W uf fr) (ht : SRowT W ut tn) (hr : Res W) => dpush_any l1 fr tn u uf ut W hu hf ht M1.short htk hr)
          rw [ex] at HPX
          rw [ey] at HPY
          change Hid (∀ u uf ut W (_ : LRow W u l0) (_ : SRowT W uf fr) (_ : SRowT W ut tn) (_ : Res W), Calls _ _ _ _ fun e w' => (∃ u, e = .returned (.tuple #[u, .int .i64 0]) ∧ OwnM _ w' u x) ∧ _) at HPX
          change Hid (∀ u uf ut W (_ : LRow W u l1) (_ : SRowT W uf fr) (_ : SRowT W ut tn) (_ : Res W), Calls _ _ _ _ fun e w' => (∃ u, e = .returned (.tuple #[u, .int .i64 0]) ∧ OwnM _ w' u y) ∧ _) at HPY
          have HEX := fac_delta dx dy fe fp fs (by decide)
          have HEC := Lib.hid (fun u v W (hu : LRow W u x) (hv : LRow W v y) (hr : Res W) => ddelta_any x y u v f W hu hv sx sy (by omega) hr)
          rw [HEX.1] at HEC
          have HCK := Lib.hid (fun u W (hu : LRow W u x) (hr : Res W) => rdcheck_any x u W hu sx hr)
          rw [dx.ok] at HCK
          change Hid (∀ u W (_ : LRow W u x) (_ : Res W), Calls _ _ _ _ fun e w' => e = .returned (.int .i64 0) ∧ _) at HCK
          have HLE := Lib.hid (dleast_T HEX.2 HDX.2 (delta_push M0.dst.isD M1.dst.isD dx.isD dy.isD (turnX (fr.zip tn)) fp mx my))
          have HLX := Lib.hid lx
          have HLY := Lib.hid ly
          generalize rT (deltaD (valsD l0) (valsD l1) (valQ f.data.toList)) = d at *
          generalize rT (deltaD (valsD x) (valsD y) (valQ f.data.toList)) = c at *
          change Hid (∀ u v W (_ : LRow W u l0) (_ : LRow W v l1) (_ : Res W), Calls _ _ _ _ fun e w' => e = .returned (.tuple #[.string d, .int .i64 0]) ∧ _) at HDC
          change Hid (∀ u v W (_ : LRow W u x) (_ : LRow W v y) (_ : Res W), Calls _ _ _ _ fun e w' => e = .returned (.tuple #[.string c, .int .i64 0]) ∧ _) at HEC
          clear HDX HEX fe fp fs fz hl htk ex dx mx ey dy my sx lx sy ly
          have TK4 : True := trivial
          have TK5 : True := trivial
          have TK6 : True := trivial
          have TK7 : True := trivial
          have TK8 : True := trivial
          have M0 := Lib.hid M0
          have M1 := Lib.hid M1
          go_enter Tryz.func19, Tryz.ntmps19
          go_wp2_with ((clear TK0; go_at_call 21; refine (HLV.out _ N0.out.res).mono ?_; rintro e w1 ⟨rfl, hb⟩; have N1 := Lib.hid (N0.out.later hb); clear hb))
          go_wp2_with ((clear TK1; go_at_call 97; refine (HMD.out _ N1.out).mono ?_; rintro e w2 ⟨⟨u, rfl, hl⟩, hb⟩; obtain ⟨bb, cc, rfl, hbb, _, hcell⟩ := hl; have HCL := Lib.hid (And.intro hbb hcell); have N2 := Lib.hid ((N1.out.alloc _).later hb); clear hb hbb hcell))
          obtain ⟨B0, k0, y0, rr⟩ := LLRow.nth (j := 0) (l := l0) HCL.out.1 HCL.out.2 rfl
          have R0 := Lib.hid rr
          clear rr
          obtain ⟨B1, k1, y1, rr⟩ := LLRow.nth (j := 1) (l := l1) HCL.out.1 HCL.out.2 rfl
          have R1 := Lib.hid rr
          clear rr
          have RS := Lib.hid (fun z : LaterW w2 => N2.out.res.below z.h)
          clear HCL
          go_wp2_with ((clear TK2; go_at_call 98; refine (HNB.out _ (RS.out ⟨w2, Below.refl _ _⟩)).mono ?_; rintro e w9 ⟨rfl, hb9⟩; obtain ⟨z0, rfl⟩ := LaterW.step ⟨w2, Below.refl _ _⟩ hb9; clear hb9))
          have HNM := Lib.hid (fun z : LaterW w2 => names8_any [fr, tn] (.slice (some ⟨z.W.heap.size, 0, none⟩) 2 2) (z.W.alloc (.cells #[.slice Af fr.length cf, .slice At tn.length ct] 24))
        (LSRow.ofBlk (vs := [(.slice Af fr.length cf, fr), (.slice At tn.length ct, tn)]) (Blk.new z.W 24 #[.slice Af fr.length cf, .slice At tn.length ct]) rfl (by simp) (fun x hx => by
          have hb := below_alloc (N2.out.later z.h).below (.cells #[.slice Af fr.length cf, .slice At tn.length ct] 24)
          simp only [List.mem_cons, List.not_mem_nil, or_false] at hx
          rcases hx with rfl | rfl
          · exact HFR.out.below hb
          · exact HTO.out.below hb)))
          change Hid (∀ z : LaterW w2, Calls _ _ _ _ fun e w' => e = .returned (.bool (namesD [fr, tn])) ∧ _) at HNM
          rw [hnm] at HNM
          go_wp2_with ((clear TK3; go_at_call 23; refine (HNM.out z0).mono ?_; rintro e w9 ⟨rfl, hw9⟩; subst hw9; obtain ⟨z1, hz1⟩ := LaterW.step z0 (below_alloc (Below.refl _ _) (.cells #[.slice Af fr.length cf, .slice At tn.length ct] 24)); rw [hz1]; clear hz1))
          go_wp2_with ((clear TK4; go_at_call 31; refine (HPX.out _ _ _ _ ((R0.out _).row (Nat.le_trans M0.out.len (by omega))) (HFR.out.below (N2.out.later (LaterW.h _)).below) (HTO.out.below (N2.out.later (LaterW.h _)).below) (RS.out _)).mono ?_; rintro e w9 ⟨⟨u4, rfl, ho4⟩, hb9⟩; obtain ⟨E4, e4, rfl⟩ := ho4.slice; have HO4 := Lib.hid ho4; have HW4 := Lib.hid hb9; obtain ⟨z2, hz4⟩ := LaterW.step z1 hb9; clear hb9 ho4))
          subst hz4
          go_wp2_with ((clear TK5; go_at_call 31; refine (HPY.out _ _ _ _ ((R1.out _).row (Nat.le_trans M1.out.len (by omega))) (HFR.out.below (N2.out.later (LaterW.h _)).below) (HTO.out.below (N2.out.later (LaterW.h _)).below) (RS.out _)).mono ?_; rintro e w9 ⟨⟨u5, rfl, ho5⟩, hb9⟩; obtain ⟨E5, e5, rfl⟩ := ho5.slice; have HO5 := Lib.hid ho5; have HW5 := Lib.hid hb9; obtain ⟨z3, hz5⟩ := LaterW.step z2 hb9; clear hb9 ho5))
          subst hz5
          have HO4 := Lib.hid (OwnM.later HO4.out HW5.out)
          have R0' := Lib.hid (show ∀ z : LaterW z3.W, LRowW z.W (.slice B0 l0.length k0) l0 from fun z => R0.out (z3.lift z))
          have R1' := Lib.hid (show ∀ z : LaterW z3.W, LRowW z.W (.slice B1 l1.length k1) l1 from fun z => R1.out (z3.lift z))
          have RS' := Lib.hid (show ∀ z : LaterW z3.W, Res z.W from fun z => RS.out (z3.lift z))
          have X0 := Lib.hid (fun z : LaterW z3.W => (OwnM.later HO4.out z.h).row HLX.out)
          have X1 := Lib.hid (fun z : LaterW z3.W => (OwnM.later HO5.out z.h).row HLY.out)
          have y0' : ∀ z : LaterW z3.W, z.W.cell? ⟨bb, 0, none⟩ = some (.slice B0 l0.length k0) := fun z => y0 (z3.lift z)
          have y1' : ∀ z : LaterW z3.W, z.W.cell? ⟨bb, 1, none⟩ = some (.slice B1 l1.length k1) := fun z => y1 (z3.lift z)
          have NF := Lib.hid (N2.out.later z3.h)
          clear y0 y1
          generalize z3.W = w3 at *
          refine wp_region_wide ⟨w3, Below.refl _ _⟩ (by kernel_rfl) (by kernel_rfl) ?_
          repeat (go_big_quiet_step (first
            | (go_at_call 45; refine (HDC.out _ _ _ ((R0'.out _).row (Nat.le_trans M0.out.len (by omega))) ((R1'.out _).row (Nat.le_trans M1.out.len (by omega))) (RS'.out _)).mono ?_; rintro e w99 ⟨rfl, hb9⟩; exact ⟨rfl, ⟨⟨w99, (LaterW.h _).trans (hb9.mono (LaterW.h _).size)⟩, rfl⟩⟩)))
          refine wpQuiet_nil ?_
          rintro _ ⟨z5, rfl⟩
          go_wp2_with ((clear TK6; go_at_call 45; refine (HEC.out _ _ _ (X0.out _) (X1.out _) (RS'.out _)).mono ?_; rintro e w9 ⟨rfl, hb9⟩; obtain ⟨zz0, rfl⟩ := LaterW.step z5 hb9; clear hb9))
          go_wp2_with ((clear TK7; go_at_call 100; refine (HLE.out _ (RS'.out _)).mono ?_; rintro e w9 ⟨rfl, hb9⟩; obtain ⟨zz1, rfl⟩ := LaterW.step zz0 hb9; clear hb9))
          go_wp2_with ((clear TK8; go_at_call 37; refine (HCK.out _ _ (X0.out _) (RS'.out _)).mono ?_; rintro e w9 ⟨rfl, hb9⟩; obtain ⟨zz2, rfl⟩ := LaterW.step zz1 hb9; clear hb9))
          go_wp2
          go_ret
          exact ⟨rfl, (NF.out.later zz2.h).below⟩
        · have hl' : ((fr.length : Int) == (tn.length : Int)) = false := by rw [beq_eq_false_iff_ne]; omega
          have hl3 : ((fr.length : Int) != (tn.length : Int)) = true := by unfold bne; rw [hl']; rfl
          clear HDX HDC fe fp fs fz M0 M1 hl
          go_enter Tryz.func19, Tryz.ntmps19
          go_wp2_with ((clear TK0; go_at_call 21; refine (HLV.out _ N0.out.res).mono ?_; rintro e w1 ⟨rfl, hb⟩; have N1 := Lib.hid (N0.out.later hb); clear hb))
          go_wp2_with ((clear TK1; go_at_call 97; refine (HMD.out _ N1.out).mono ?_; rintro e w2 ⟨⟨u, rfl, hl⟩, hb⟩; obtain ⟨bb, cc, rfl, hbb, _, hcell⟩ := hl; have HCL := Lib.hid (And.intro hbb hcell); have N2 := Lib.hid ((N1.out.alloc _).later hb); clear hb hbb hcell))
          obtain ⟨B0, k0, y0, rr⟩ := LLRow.nth (j := 0) (l := l0) HCL.out.1 HCL.out.2 rfl
          have R0 := Lib.hid rr
          clear rr
          obtain ⟨B1, k1, y1, rr⟩ := LLRow.nth (j := 1) (l := l1) HCL.out.1 HCL.out.2 rfl
          have R1 := Lib.hid rr
          clear rr
          have RS := Lib.hid (fun z : LaterW w2 => N2.out.res.below z.h)
          clear HCL
          go_wp2_with ((clear TK2; go_at_call 98; refine (HNB.out _ (RS.out ⟨w2, Below.refl _ _⟩)).mono ?_; rintro e w9 ⟨rfl, hb9⟩; obtain ⟨z0, rfl⟩ := LaterW.step ⟨w2, Below.refl _ _⟩ hb9; clear hb9))
          have HNM := Lib.hid (fun z : LaterW w2 => names8_any [fr, tn] (.slice (some ⟨z.W.heap.size, 0, none⟩) 2 2) (z.W.alloc (.cells #[.slice Af fr.length cf, .slice At tn.length ct] 24))
        (LSRow.ofBlk (vs := [(.slice Af fr.length cf, fr), (.slice At tn.length ct, tn)]) (Blk.new z.W 24 #[.slice Af fr.length cf, .slice At tn.length ct]) rfl (by simp) (fun x hx => by
          have hb := below_alloc (N2.out.later z.h).below (.cells #[.slice Af fr.length cf, .slice At tn.length ct] 24)
          simp only [List.mem_cons, List.not_mem_nil, or_false] at hx
          rcases hx with rfl | rfl
          · exact HFR.out.below hb
          · exact HTO.out.below hb)))
          change Hid (∀ z : LaterW w2, Calls _ _ _ _ fun e w' => e = .returned (.bool (namesD [fr, tn])) ∧ _) at HNM
          rw [hnm] at HNM
          go_wp2_with ((clear TK3; go_at_call 23; refine (HNM.out z0).mono ?_; rintro e w9 ⟨rfl, hw9⟩; subst hw9; obtain ⟨z1, hz1⟩ := LaterW.step z0 (below_alloc (Below.refl _ _) (.cells #[.slice Af fr.length cf, .slice At tn.length ct] 24)); rw [hz1]; clear hz1))
          go_wp2
          go_ret
          exact ⟨rfl, (N2.out.later z1.h).below⟩
end Go.Proofs.YtigapglmipmbeaaGreatDoor
namespace Go.Proofs.YtigapglmipmbeaaGreatDoor
open Go.RowKit Go.ChangeShapes Go.WideShapes Go.ChangeAt
def oneK (t : TypeId) : Kind ByteArray where
  ty := t
  k := 1
  is := fun _ _ l x => l = [.string x] ∧ x.size ≤ maxLen
  inner := []
  len := fun h => by rw [h.1]; rfl
  keep := fun h _ => h
section
variable {H : Type} {enc : TypeId × Value → H} {w : World} {base : Nat} {sp : Nat → Bool} {held : Bool}
set_option maxRecDepth 100000 in
theorem open_str1 (n : Nat) (cs : List Value) (y : DataW H × List MemPlace) (h : DataW.trod enc Tryz.prog w base sp held n 9 cs = some y) : ∃ x, (oneK 9).is Any w cs x := by
  obtain ⟨a, e0, _, z0⟩ := DataW.trod_string Tryz.underlying9 h
  exact ⟨a, e0, z0⟩
theorem open_strs {a0 : Option Addr} {len0 cap0 : Nat} {d : DataW H} {p : List MemPlace} (h : DataW.Trod enc Tryz.prog w base sp held 24 (.slice a0 len0 cap0) d p) :
    ∃ ls, SRowT w (.slice a0 len0 cap0) ls ∧ ∀ x ∈ ls, x.size ≤ maxLen := by
  obtain ⟨f, hf⟩ := h
  obtain ⟨v', ls, e, hr⟩ := open_kind (K := oneK 9) Tryz.underlying24 cellsStrD (by decide) open_str1 hf
  simp [Value.cells] at e
  subst e
  obtain ⟨A, c, e, h1, h2, h3⟩ := hr
  refine ⟨ls, ⟨A, c, e, by omega, fun h0 => ?_⟩, fun x hx => ?_⟩
  · obtain ⟨b, o, eA, _, hb, hx⟩ := h3 h0
    refine ⟨b, o, eA, hb, fun j x hj => ?_⟩
    obtain ⟨l, ⟨hl, _⟩, hc⟩ := hx j x hj
    subst hl
    have := hc 0 _ rfl
    simpa [oneK] using this
  · obtain ⟨j, hj⟩ := List.getElem?_of_mem hx
    obtain ⟨b, o, _, _, _, hx⟩ := h3 (by have := (List.getElem?_eq_some_iff.1 hj).1; omega)
    obtain ⟨l, ⟨_, hs⟩, _⟩ := hx j x hj
    exact hs
end
end Go.Proofs.YtigapglmipmbeaaGreatDoor
