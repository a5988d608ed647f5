/- law 08: number, least, plus, times. Walks of laws behind made: one class of later worlds for all that follows. The plain law of DistTriangle: distances as texts. No program in sight. The plain law of DistSets: sums over the places that a number selects. No program in sight. The plain law of DistFactors: the least factor as a text. No program in sight. DistSets: the sums as texts. No program in sight but the contracts of plus and times. DistSets, as a walk (printed by mkdlaw2.py). -/
import Derived.Test.YtigapglmipmbeaaGreatDoorRb15
import Derived.Test.YtigapglmipmbeaaGreatDoorRb16
import Derived.Test.YtigapglmipmbeaaGreatDoorRb11
import Derived.Test.YtigapglmipmbeaaGreatDoorLwDistSets01
import Derived.Test.YtigapglmipmbeaaGreatDoorRb12
import Derived.Test.YtigapglmipmbeaaGreatDoorRb13
import Derived.Test.YtigapglmipmbeaaGreatDoorRb17
namespace Go.Proofs.YtigapglmipmbeaaGreatDoor
open Go.RowKit Go.Shelf
open Lim
def numberB (f : ByteArray) : Bool := decide (f.size ≤ 24) && ((errQ f.data.toList == 0) && decide (0 ≤ valQ f.data.toList))
set_option maxRecDepth 100000 in
theorem refSign_errB (a : ByteArray) (w : World) (ha : a.size ≤ 9223372036854775807) (he : errQ a.data.toList ≠ 0) :
    Calls Tryz.prog 110 #[.string a] w fun e w' => e = .returned (.tuple #[.int .i64 0, .int .i64 (errQ a.data.toList : Int)]) ∧ Below w.heap.size w w' := by
  have HP := Lib.hid (rq_anyB a w ha)
  have hne : ((errQ a.data.toList : Int) == 0) = false := by rw [beq_eq_false_iff_ne]; omega
  have HE := Lib.hid he
  clear he
  go_enter Tryz.func110, Tryz.ntmps110
  go_wp2_with ((go_at_call 155; refine HP.out.mono ?_; rintro e w1 ⟨v, rfl, -, hz, hb⟩; obtain rfl := hz HE.out; have HB := Lib.hid hb; clear hb hz))
  all_goals first
    | (refine bodyPost_ret (results_tmp2 rfl _ _ _) rfl ?_; exact ⟨rfl, below_alloc HB.out _⟩)
    | (exfalso; have := HE.out; omega)
    | (exfalso; simp_all)
set_option maxRecDepth 100000 in
set_option maxHeartbeats 4000000 in
theorem dnumber_walk (f : ByteArray) (c k : Int) (b : Bool) (w : World) (HC : Hid (Calls Tryz.prog 110 #[.string f] w fun e w' => e = .returned (.tuple #[.int .i64 c, .int .i64 k]) ∧ Below w.heap.size w w'))
    (hb : b = (decide (f.size ≤ 24) && ((k == 0) && decide (0 ≤ c)))) :
    Calls Tryz.prog 98 #[.string f] w fun e w' => e = .returned (.bool b) ∧ Below w.heap.size w w' := by
  by_cases h1 : f.size ≤ 24
  · have d1 : decide ((f.size : Int) ≤ 24) = true := decide_eq_true (by omega)
    rw [decide_eq_true h1, Bool.true_and] at hb
    clear h1
    by_cases h2 : (k == 0) = true
    · rw [h2, Bool.true_and] at hb
      subst hb
      go_enter Tryz.func98, Tryz.ntmps98
      go_wp2_with (go_at_call 110; refine HC.out.mono ?_; rintro e w1 ⟨rfl, hb⟩; have HB := Lib.hid hb; clear hb)
      go_ret
      exact ⟨rfl, HB.out⟩
    · have h2 : (k == 0) = false := by simpa using h2
      rw [h2, Bool.false_and] at hb
      subst hb
      go_enter Tryz.func98, Tryz.ntmps98
      go_wp2_with (go_at_call 110; refine HC.out.mono ?_; rintro e w1 ⟨rfl, hb⟩; have HB := Lib.hid hb; clear hb)
      go_ret
      exact ⟨rfl, HB.out⟩
  · have d1 : decide ((f.size : Int) ≤ 24) = false := decide_eq_false (by omega)
    rw [decide_eq_false h1, Bool.false_and] at hb
    clear h1
    subst hb
    go_enter Tryz.func98, Tryz.ntmps98
    go_wp2_with (go_at_call 110; refine HC.out.mono ?_; rintro e w1 ⟨rfl, hb⟩; have HB := Lib.hid hb; clear hb)
    go_ret
    exact ⟨rfl, HB.out⟩
theorem dnumber_any (f : ByteArray) (w : World) (hf : f.size ≤ 9223372036854775807) (hr : Res w) :
    Calls Tryz.prog 98 #[.string f] w fun e w' => e = .returned (.bool (numberB f)) ∧ Below w.heap.size w w' := by
  by_cases he : errQ f.data.toList = 0
  · refine dnumber_walk f (sgQ (valQ f.data.toList)) 0 _ w (Lib.hid (retRSign_ok (IsT.of he).size he w hr)) ?_
    unfold numberB
    rw [he]
    have : decide (0 ≤ sgQ (valQ f.data.toList)) = decide (0 ≤ valQ f.data.toList) := decide_eq_decide.2 (by
      have := sg_lt (valQ f.data.toList)
      constructor
      · intro h; exact Classical.byContradiction fun h2 => by have := this.2 (by grind); omega
      · intro h; exact Classical.byContradiction fun h2 => by have := this.1 (by omega); grind)
    rw [this]
    rfl
  · refine dnumber_walk f 0 (errQ f.data.toList : Int) _ w (Lib.hid (refSign_errB f w hf he)) ?_
    unfold numberB
    have h1 : ((errQ f.data.toList) == 0) = false := beq_eq_false_iff_ne.2 he
    have h2 : ((errQ f.data.toList : Int) == 0) = false := by rw [beq_eq_false_iff_ne]; omega
    rw [h1, h2]
    simp
theorem numberB_ok {f : ByteArray} (h : numberB f = true) : f.size ≤ 24 ∧ errQ f.data.toList = 0 ∧ 0 ≤ valQ f.data.toList := by
  unfold numberB at h
  simp only [Bool.and_eq_true, decide_eq_true_eq, beq_iff_eq] at h
  exact ⟨h.1, h.2.1, h.2.2⟩
set_option maxRecDepth 100000 in
theorem dleast_any {a b : ByteArray} {p q : Rat} (ha : IsT a p) (hb : IsT b q) : Ret 100 #[.string a, .string b] (.bool (decide (cmpQ p q ≤ 0))) := fun w _ => by
  have HC := Lib.hid (rcmpT w ha hb)
  generalize cmpQ p q = x at *
  clear ha hb
  go_enter Tryz.func100, Tryz.ntmps100
  go_wp2_with (go_at_call 119; refine HC.out.mono ?_; rintro e w1 ⟨rfl, hb⟩; have HB := Lib.hid hb; clear hb)
  go_ret
  exact ⟨rfl, HB.out⟩
theorem dleast_T {a b : ByteArray} {p q : Rat} (ha : IsT a p) (hb : IsT b q) (h : p ≤ q) : Ret 100 #[.string a, .string b] (.bool true) := by
  have := dleast_any ha hb
  rwa [decide_eq_true ((cmpQ_le p q).2 h)] at this
set_option maxRecDepth 100000 in
theorem dplus_T {a b : ByteArray} {p q : Rat} (ha : IsT a p) (hb : IsT b q) (hf : fits (p + q) = true) : Ret 99 #[.string a, .string b] (.string (rT (p + q))) := fun w hr => by
  have HC := retRPlX ha.size hb.size
  rw [plX_val ha.err hb.err, ha.val, hb.val, ovT_fit hf] at HC
  have HC := Lib.hid HC
  change Hid (Ret _ _ (.tuple #[.string _, .int .i64 0])) at HC
  clear ha hb hf
  generalize rT (p + q) = x at *
  go_enter Tryz.func99, Tryz.ntmps99
  go_wp2_with (go_at_call 59; refine (HC.out _ hr).mono ?_; rintro e w1 ⟨rfl, hb⟩; have HB := Lib.hid hb; clear hb)
  go_ret
  exact ⟨rfl, HB.out⟩
set_option maxRecDepth 100000 in
theorem dtimes_T {a b : ByteArray} {p q : Rat} (ha : IsT a p) (hb : IsT b q) (hf : fits (p * q) = true) : Ret 101 #[.string a, .string b] (.string (rT (p * q))) := fun w hr => by
  have HC := retRMulX ha.size hb.size
  rw [mulX_val ha.err hb.err, ha.val, hb.val, ovT_fit hf] at HC
  have HC := Lib.hid HC
  change Hid (Ret _ _ (.tuple #[.string _, .int .i64 0])) at HC
  clear ha hb hf
  generalize rT (p * q) = x at *
  go_enter Tryz.func101, Tryz.ntmps101
  go_wp2_with (go_at_call 149; refine (HC.out _ hr).mono ?_; rintro e w1 ⟨rfl, hb⟩; have HB := Lib.hid hb; clear hb)
  go_ret
  exact ⟨rfl, HB.out⟩
end Go.Proofs.YtigapglmipmbeaaGreatDoor
namespace Go.Proofs.YtigapglmipmbeaaGreatDoor
open Go.RowKit Go.Shelf
open Lim
section
variable {P : Program} {id : Nat} {Q : Exit → Act → World → Prop} {a : Act} {w0 : World} {l : List Oper}
theorem wp_region_wide (x : LaterW w0) (hm : P.follows .mixedOrders = true) (hB : Region.lexB .any l.toArray = true)
    (h : wpQuiet P l.toArray (fun W => ∃ x : LaterW w0, W = x.W) (fun a' => ∀ W, (∃ x : LaterW w0, W = x.W) → Q .normal a' W) l a) : (Code.region id l.toArray true).wp P Q a x.W :=
  wp_region_quiet (C := fun W => ∃ x : LaterW w0, W = x.W) hm hB ⟨⟨{ x.W with drawn := x.W.drawn + 1 }, x.h.trans ⟨rfl, rfl, rfl, Nat.le_refl _, fun _ _ => rfl⟩⟩, rfl⟩ (by simpa using h)
end
theorem LaterW.step {w0 : World} (z : LaterW w0) {W : World} (hb : Below z.W.heap.size z.W W) : ∃ x : LaterW w0, W = x.W := ⟨⟨W, z.h.trans (hb.mono z.h.size)⟩, rfl⟩
theorem LLRow.nth {w : World} {bb j : Nat} {outs : List (List L2)} {l : List L2} (hbb : bb < w.heap.size) (h : ∀ (j : Nat) (ls : List L2), outs[j]? = some ls → ∃ u, w.cell? ⟨bb, j, none⟩ = some u ∧ LRowW w u ls) (hj : outs[j]? = some l) :
    ∃ A c, (∀ z : LaterW w, z.W.cell? ⟨bb, j, none⟩ = some (.slice A l.length c)) ∧ ∀ z : LaterW w, LRowW z.W (.slice A l.length c) l := by
  obtain ⟨u, h1, h2⟩ := h j l hj
  obtain ⟨A, c, rfl, _, _⟩ := id h2
  exact ⟨A, c, fun z => (z.h.cell (p := ⟨bb, j, none⟩) hbb).trans h1, fun z => h2.below z.h⟩
theorem LRowW.wide2 {w : World} {A : Option Addr} {n c k : Nat} {x : L2} {ls : List L2} (h : LRowW w (.slice A n c) ls) (hx : ls[k]? = some x) :
    ∃ b o, A = some ⟨b, o, none⟩ ∧ (∀ z : LaterW w, z.W.cell? ⟨b, o + k * 2, none⟩ = some (.string x.1)) ∧ (∀ z : LaterW w, z.W.cell? ⟨b, o + k * 2 + 1, none⟩ = some (.string x.2)) ∧ ∀ z : LaterW w, b < z.W.heap.size := by
  obtain ⟨b, o, c', e, hb, c0, c1⟩ := h.at (Below.refl _ _) hx
  simp only [Value.slice.injEq] at e
  exact ⟨b, o, e.1, LaterW.at hb c0, LaterW.at hb c1, fun z => Nat.lt_of_lt_of_le hb z.h.size⟩
structure Made8 (l : List L2) : Prop where
  len : l.length ≤ 16
  key : ∀ x ∈ l, x.1.size ≤ 12
  txt : ∀ x ∈ l, x.2.size ≤ 24
  dst : Dst 385 l
theorem Made8.short {l : List L2} (h : Made8 l) : Short l := fun x hx => ⟨Nat.le_trans (h.key x hx) (by omega), Nat.le_trans (h.txt x hx) (by omega)⟩
theorem Made8.of {lss outs : List (List L2)} (h : madeD 16 12 24 lss = some outs) : outs.length = lss.length ∧ ∀ d ∈ outs, Made8 d := by
  obtain ⟨h1, h2⟩ := madeD_spec h
  refine ⟨h1, fun d hd => ?_⟩
  obtain ⟨h3, h4⟩ := h2 d hd
  obtain ⟨l1, l2⟩ := lightD_iff.1 h3
  exact ⟨l1, fun x hx => (l2 x hx).1, fun x hx => (l2 x hx).2, h4⟩
end Go.Proofs.YtigapglmipmbeaaGreatDoor
namespace Go.Proofs.YtigapglmipmbeaaGreatDoor
open Lim
theorem mass_mem {ls : List L2} {a : Nat} (h : Dst a ls) {x : L2} (hx : x ∈ ls) : massD (valsD ls) x.1 = valX x := massD_at (l := valsD ls) (by rw [keys_vals]; exact h.once) (vals_mem hx)
theorem text_eq {s t : ByteArray} (hs : errQ s.data.toList = 0) (ht : errQ t.data.toList = 0) (h : valQ s.data.toList = valQ t.data.toList) : s = t := by rw [ok_rT hs, ok_rT ht, h]
theorem dst_sub {l m : List L2} {a b : Nat} (hl : Dst a l) (hm : Dst b m) (h : ∀ k, massD (valsD l) k = massD (valsD m) k) {x : L2} (hx : x ∈ l) : x ∈ m := by
  have h1 := mass_mem hl hx
  have h2 : 0 < massD (valsD m) x.1 := by rw [← h, h1]; exact hl.pos hx
  have h3 := (hm.isD.pos_iff _).1 h2
  rw [keys_vals] at h3
  obtain ⟨y, hy, e⟩ := List.mem_map.1 h3
  have h4 := mass_mem hm hy
  rw [e, ← h, h1] at h4
  have h5 : x.2 = y.2 := text_eq (hl.okV x hx) (hm.okV y hy) h4
  have h6 : x = y := Prod.ext e.symm h5
  rw [h6]; exact hy
theorem dst_eq {l m : List L2} {a b : Nat} (hl : Dst a l) (hm : Dst b m) (h : ∀ k, massD (valsD l) k = massD (valsD m) k) : l = m := by
  have n1 : l.Nodup := List.Pairwise.of_map (·.1) (fun _ _ h e => h (congrArg _ e)) hl.once
  have n2 : m.Nodup := List.Pairwise.of_map (·.1) (fun _ _ h e => h (congrArg _ e)) hm.once
  have hp : l.Perm m := (List.perm_ext_iff_of_nodup n1 n2).2 fun x => ⟨fun hx => dst_sub hl hm h hx, fun hx => dst_sub hm hl (fun k => (h k).symm) hx⟩
  refine hp.eq_of_pairwise (le := fun x y => ltK x.1 y.1 = true) (fun x y _ _ h1 h2 => ?_) ?_ ?_
  · have := ltK_asymm h1
    rw [h2] at this
    cases this
  · have := hl.asc
    unfold Asc at this
    rwa [List.pairwise_map] at this
  · have := hm.asc
    unfold Asc at this
    rwa [List.pairwise_map] at this
theorem delta_sz {p q : List L2} {f : Rat} {a b j : Nat} (hp : Dst a p) (hq : Dst b q) (h0 : 0 ≤ f) (sf : Sz j f) : Sz (a + (j + b)) (deltaD (valsD p) (valsD q) f) := by
  obtain ⟨D, d1, d2, d3⟩ := hp.den
  obtain ⟨E, e1, e2, e3⟩ := hq.den
  have hD : 0 < D * (f.den * E) := Nat.mul_pos d1 (Nat.mul_pos f.den_pos e1)
  have hlt : D * (f.den * E) < 10 ^ (a + (j + b)) := mul_lt_pow d2 (mul_lt_pow sf.2 e2)
  have ht := delta_top hp.isD hq.isD h0
  have hn := delta_nonneg (valsD p) (valsD q) f
  rw [deltaD_vals hq.once] at ht hn ⊢
  exact (HasDen.sum fun m hm => HasDen.pos (((d3 m hm).mul_right _).sub (((HasDen.self f).mul (atT_has e3)).mul_left _))).sz hD hn (M := 1) ht (by omega) Nat.one_pos
def distT (l m : List L2) : ByteArray := rT (deltaD (valsD l) (valsD m) 1)
section
variable {l m n : List L2} (hl : Dst 385 l) (hm : Dst 385 m) (hn : Dst 385 n)
include hl hm
theorem dist_fit : deltaX l m oT = .ok (distT l m) ∧ IsT (distT l m) (deltaD (valsD l) (valsD m) 1) := by
  have h := deltaX_fit (j := 1) hl hm err_oT (by rw [val_oT]; decide) (by rw [val_oT]; exact Sz.one) (by decide) (by decide)
  rw [val_oT] at h
  exact ⟨h.1, isT_rT h.2⟩
theorem dist_symm : distT l m = distT m l := by unfold distT; rw [delta_symm hl.isD hm.isD]
theorem dist_top : deltaD (valsD l) (valsD m) 1 ≤ 1 := delta_top hl.isD hm.isD (by decide)
theorem dist_zero : decide (distT l m = zT) = sameX l m := by
  refine decide_eq_decide.2 ?_
  have hT := (dist_fit hl hm).2
  rw [zero_text hT.err, hT.val]
  constructor
  · intro h; exact dst_eq hl hm (delta_same hl.isD hm.isD h)
  · intro h
    subst h
    exact delta_zero.2 fun e he => by
      obtain ⟨x, hx, rfl⟩ := List.mem_map.1 he
      have := mass_mem hl hx
      show valX x ≤ 1 * massD (valsD l) x.1
      rw [this, Rat.one_mul]
      exact Rat.le_refl
include hn
theorem dist_sum : fits (deltaD (valsD l) (valsD m) 1 + deltaD (valsD m) (valsD n) 1) = true := by
  have h1 := delta_sz hl hm (f := 1) (by decide) Sz.one
  have h2 := delta_sz hm hn (f := 1) (by decide) Sz.one
  exact fits_sz.2 ((h1.add h2).mono (by decide))
theorem dist_tri : deltaD (valsD l) (valsD n) 1 ≤ deltaD (valsD l) (valsD m) 1 + deltaD (valsD m) (valsD n) 1 := delta_triangle hl.isD hm.isD hn.isD
end
end Go.Proofs.YtigapglmipmbeaaGreatDoor
namespace Go.Proofs.YtigapglmipmbeaaGreatDoor
open Lim
def selS (s : Nat → L2 → Bool) (g : L2 → Rat) : Nat → List L2 → Rat
  | _, [] => 0
  | i, x :: l => (if s i x = true then g x else 0) + selS s g (i + 1) l
theorem selS_snoc (s : Nat → L2 → Bool) (g : L2 → Rat) (x : L2) : ∀ (l : List L2) (i : Nat), selS s g i (l ++ [x]) = selS s g i l + (if s (i + l.length) x = true then g x else 0)
  | [], i => by simp only [List.nil_append, selS, List.length_nil, Nat.add_zero]; grind
  | y :: l, i => by
    have := selS_snoc s g x l (i + 1)
    simp only [List.cons_append, selS, this, List.length_cons]
    rw [show i + 1 + l.length = i + (l.length + 1) by omega]
    grind
theorem selS_take {s : Nat → L2 → Bool} {g : L2 → Rat} {l : List L2} {k : Nat} {x : L2} (h : l[k]? = some x) : selS s g 0 (l.take (k + 1)) = selS s g 0 (l.take k) + (if s k x = true then g x else 0) := by
  have hk := (List.getElem?_eq_some_iff.1 h).1
  rw [List.take_add_one, h, Option.toList_some, selS_snoc, List.length_take, Nat.min_eq_left (by omega), Nat.zero_add]
theorem selS_nonneg {s : Nat → L2 → Bool} {g : L2 → Rat} : ∀ {l : List L2} {i : Nat}, (∀ x ∈ l, 0 ≤ g x) → 0 ≤ selS s g i l
  | [], _, _ => Rat.le_refl
  | x :: l, i, h => by
    have h1 := h x (by simp)
    have h2 := selS_nonneg (s := s) (l := l) (i := i + 1) fun y hy => h y (by simp [hy])
    simp only [selS]
    split <;> grind
theorem selS_le {s : Nat → L2 → Bool} {g : L2 → Rat} : ∀ {l : List L2} {i : Nat}, (∀ x ∈ l, 0 ≤ g x) → selS s g i l ≤ sumBy g l
  | [], _, _ => Rat.le_refl
  | x :: l, i, h => by
    have h1 := h x (by simp)
    have h2 := selS_le (s := s) (l := l) (i := i + 1) fun y hy => h y (by simp [hy])
    simp only [selS, sumBy]
    split <;> grind
theorem selS_den {s : Nat → L2 → Bool} {g : L2 → Rat} {D : Nat} : ∀ {l : List L2} {i : Nat}, (∀ x ∈ l, HasDen D (g x)) → HasDen D (selS s g i l)
  | [], _, _ => HasDen.zero D
  | x :: l, i, h => by
    have h2 := selS_den (s := s) (l := l) (i := i + 1) fun y hy => h y (by simp [hy])
    simp only [selS]
    split
    · exact (h x (by simp)).add h2
    · exact (HasDen.zero D).add h2
theorem selS_delta (s : Nat → L2 → Bool) (q : DL) (f : Rat) : ∀ (l : List L2) (i : Nat), selS s valX i l ≤ f * selS s (fun x => massD q x.1) i l + deltaD (valsD l) q f
  | [], _ => by
    show (0 : Rat) ≤ f * 0 + 0
    grind
  | x :: l, i => by
    have h := selS_delta s q f l (i + 1)
    have h1 := le_pos (valX x - f * massD q x.1)
    have h2 := pos_nonneg (valX x - f * massD q x.1)
    have e : deltaD (valsD (x :: l)) q f = pos (valX x - f * massD q x.1) + deltaD (valsD l) q f := rfl
    simp only [selS, e]
    split <;> grind
theorem selS_great (q : DL) (f : Rat) : ∀ (l : List L2) (i : Nat), selS (fun _ x => decide (f * massD q x.1 < valX x)) valX i l = f * selS (fun _ x => decide (f * massD q x.1 < valX x)) (fun x => massD q x.1) i l + deltaD (valsD l) q f
  | [], _ => by
    show (0 : Rat) = f * 0 + 0
    grind
  | x :: l, i => by
    have h := selS_great q f l (i + 1)
    have e : deltaD (valsD (x :: l)) q f = pos (valX x - f * massD q x.1) + deltaD (valsD l) q f := rfl
    simp only [selS, e, decide_eq_true_eq]
    unfold pos
    split <;> split <;> grind
end Go.Proofs.YtigapglmipmbeaaGreatDoor
namespace Go.Proofs.YtigapglmipmbeaaGreatDoor
open Lim
theorem most_sz {q : DL} {k : Nat} : ∀ {p : DL} {m : Rat}, Sz k m → (∀ e ∈ p, Sz k (e.2 * (massD q e.1)⁻¹)) → Sz k (mostD p q m)
  | [], m, h, _ => h
  | e :: l, m, h, h2 => by
    refine most_sz (p := l) (m := maxQ m (e.2 * (massD q e.1)⁻¹)) ?_ fun x hx => h2 x (by simp [hx])
    unfold maxQ
    split
    · exact h2 e (by simp)
    · exact h
def facT (l m : List L2) : ByteArray := rT (mostD (valsD l) (valsD m) 0)
section
variable {l m : List L2} (hl : Dst 385 l) (hm : Dst 385 m)
include hl hm
omit hl hm in
theorem in_keys (hin : inX l m = true) : ∀ e ∈ valsD l, e.1 ∈ keysD (valsD m) := fun e he => by
  obtain ⟨x, hx, rfl⟩ := List.mem_map.1 he
  rw [keys_vals]
  exact inX_iff.1 hin x hx
theorem fac_sz (hin : inX l m = true) : Sz 770 (mostD (valsD l) (valsD m) 0) := by
  refine most_sz (Sz.zero.mono (by decide)) fun e he => ?_
  obtain ⟨x, hx, rfl⟩ := List.mem_map.1 he
  obtain ⟨y, hy, e1⟩ := List.mem_map.1 (inX_iff.1 hin x hx)
  have h1 := mass_mem hm hy
  rw [e1] at h1
  show Sz 770 (valX x * (massD (valsD m) x.1)⁻¹)
  rw [h1]
  exact Sz.mono ((hl.sz hx).mul (hm.sz hy).inv) (Nat.le_of_eq rfl)
theorem fac_fit (hin : inX l m = true) : facV l m = .tuple #[.string (facT l m), .bool true, .int .i64 0] ∧ IsT (facT l m) (mostD (valsD l) (valsD m) 0) := by
  have h := facV_fit (k := 385) hl.ok hm.ok (fun x hx => hl.sz hx) (fun x hx => hm.sz hx) (by decide) hin
  exact ⟨h.1, isT_rT h.2⟩
theorem fac_one (hin : inX l m = true) : 1 ≤ mostD (valsD l) (valsD m) 0 := most_one hl.isD hm.isD (in_keys hin)
theorem fac_delta {f : ByteArray} {j : Nat} (hf : errQ f.data.toList = 0) (h0 : 0 ≤ valQ f.data.toList) (sf : Sz j (valQ f.data.toList)) (hj : 385 + (j + 385) + 1 ≤ maxD) :
    deltaX l m f = .ok (rT (deltaD (valsD l) (valsD m) (valQ f.data.toList))) ∧ IsT (rT (deltaD (valsD l) (valsD m) (valQ f.data.toList))) (deltaD (valsD l) (valsD m) (valQ f.data.toList)) := by
  have h := deltaX_fit (j := j) hl hm hf h0 sf hj (by decide)
  exact ⟨h.1, isT_rT h.2⟩
omit hl in
theorem fac_iff (hin : inX l m = true) {f : Rat} (h0 : 0 ≤ f) : mostD (valsD l) (valsD m) 0 ≤ f ↔ deltaD (valsD l) (valsD m) f = 0 := most_iff hm.isD (in_keys hin) h0
theorem fac_none (hin : inX l m = true) : deltaD (valsD l) (valsD m) (mostD (valsD l) (valsD m) 0) = 0 :=
  (fac_iff hm hin (Rat.le_trans (by decide) (fac_one hl hm hin))).1 Rat.le_refl
omit hm in
theorem fac_out (hin : inX l m = false) (f : Rat) : deltaD (valsD l) (valsD m) f ≠ 0 := fun h => by
  have hn : ¬ ∀ x ∈ l, x.1 ∈ m.map (·.1) := fun h2 => by rw [inX_iff.2 h2] at hin; cases hin
  refine hn fun x hx => Classical.byContradiction fun h3 => ?_
  have h4 := delta_zero.1 h (x.1, valX x) (vals_mem hx)
  have h5 : massD (valsD m) x.1 = 0 := massD_none (by rw [keys_vals]; exact h3)
  have h6 := hl.pos hx
  simp only [h5, Rat.mul_zero] at h4
  grind
end
end Go.Proofs.YtigapglmipmbeaaGreatDoor
namespace Go.Proofs.YtigapglmipmbeaaGreatDoor
open Go.RowKit Go.Shelf
open Lim
def selB (n : Int) (k : Nat) : Bool := Go.bits .and .u64 (n / 2 ^ k) 1 == 1
theorem sel_take {l : List L2} {s : Nat → L2 → Bool} {g : L2 → Rat} {k : Nat} (hg : ∀ x ∈ l, 0 ≤ g x) : 0 ≤ selS s g 0 (l.take k) := selS_nonneg fun x hx => hg x (List.mem_of_mem_take hx)
theorem sumBy_take {l : List L2} {g : L2 → Rat} (hg : ∀ x ∈ l, 0 ≤ g x) (k : Nat) : sumBy g (l.take k) ≤ sumBy g l := by
  have e : sumBy g l = sumBy g (l.take k) + sumBy g (l.drop k) := by rw [← sumBy_append, List.take_append_drop]
  have h : 0 ≤ sumBy g (l.drop k) := sumBy_nonneg fun x hx => hg x (List.mem_of_mem_drop hx)
  rw [e]; grind
section
variable {l m : List L2} (hl : Dst 385 l) (hm : Dst 385 m)
include hl
theorem selA_sz (s : Nat → L2 → Bool) (k : Nat) : Sz 385 (selS s valX 0 (l.take k)) := by
  obtain ⟨D, d1, d2, d3⟩ := hl.den
  have hn : ∀ x ∈ l, 0 ≤ valX x := fun x hx => Rat.le_of_lt (hl.pos hx)
  have h1 : selS s valX 0 (l.take k) ≤ ((1 : Nat) : Rat) := by
    refine Rat.le_trans (selS_le fun x hx => hn x (List.mem_of_mem_take hx)) (Rat.le_trans (sumBy_take hn k) ?_)
    have := hl.isD.one
    rw [sum_vals] at this
    show sumBy valX l ≤ _
    have e : sumBy valX l = 1 := this
    rw [e]
    exact Rat.le_refl
  exact (selS_den fun x hx => d3 x (List.mem_of_mem_take hx)).sz d1 (sel_take hn) (M := 1) h1 (by omega) Nat.one_pos
include hm
theorem selB_sz (s : Nat → L2 → Bool) (k : Nat) : Sz 385 (selS s (fun x => massD (valsD m) x.1) 0 (l.take k)) := by
  obtain ⟨D, d1, d2, d3⟩ := hm.den
  have hn : ∀ x ∈ l, 0 ≤ massD (valsD m) x.1 := fun x _ => hm.isD.zero _
  have h1 : selS s (fun x => massD (valsD m) x.1) 0 (l.take k) ≤ ((1 : Nat) : Rat) := by
    refine Rat.le_trans (selS_le fun x hx => hn x (List.mem_of_mem_take hx)) (Rat.le_trans (sumBy_take hn k) ?_)
    have := keys_total (p := valsD l) (q := valsD m) (by rw [keys_vals]; exact hl.once) hm.isD
    unfold valsD at this
    rw [sumBy_map] at this
    exact this
  exact (selS_den fun x _ => mass_has d3 x.1).sz d1 (sel_take hn) (M := 1) h1 (by omega) Nat.one_pos
omit hl in
theorem at_T (k : ByteArray) : IsT (atT m k) (massD (valsD m) k) := by
  have h := IsT.of (atT_ok (k := k) hm.okV)
  rwa [atT_val hm.once] at h
def sumT (s : Nat → L2 → Bool) (g : L2 → Rat) (l : List L2) (k : Nat) : ByteArray := rT (selS s g 0 (l.take k))
omit hm in
theorem sumA_T (s : Nat → L2 → Bool) (k : Nat) : IsT (sumT s valX l k) (selS s valX 0 (l.take k)) := isT_rT (fits_sz.2 ((selA_sz hl s k).mono (by decide)))
theorem sumB_T (s : Nat → L2 → Bool) (k : Nat) : IsT (sumT s (fun x => massD (valsD m) x.1) l k) (selS s (fun x => massD (valsD m) x.1) 0 (l.take k)) := isT_rT (fits_sz.2 ((selB_sz hl hm s k).mono (by decide)))
omit hl hm in
theorem sumT_zero (s : Nat → L2 → Bool) (g : L2 → Rat) : sumT s g l 0 = zT := by
  unfold sumT
  rw [List.take_zero]
  exact IsT.zero.text.symm
omit hl hm in
theorem sumT_same {s : Nat → L2 → Bool} {g : L2 → Rat} {k : Nat} {x : L2} (hx : l[k]? = some x) (h : s k x = false) : sumT s g l (k + 1) = sumT s g l k := by
  unfold sumT
  rw [selS_take hx, h, if_neg (by decide), Rat.add_zero]
omit hm in
theorem plusA {s : Nat → L2 → Bool} {k : Nat} {x : L2} (hx : l[k]? = some x) (h : s k x = true) : Ret 99 #[.string (sumT s valX l k), .string x.2] (.string (sumT s valX l (k + 1))) := by
  have e : selS s valX 0 (l.take (k + 1)) = selS s valX 0 (l.take k) + valX x := by rw [selS_take hx, h, if_pos rfl]
  have h2 := dplus_T (sumA_T hl s k) (IsT.of (hl.okV x (List.mem_of_getElem? hx))) (by show fits (_ + valX x) = true; rw [← e]; exact (sumA_T hl s (k + 1)).fits)
  have e2 : sumT s valX l (k + 1) = rT (selS s valX 0 (l.take k) + valQ x.2.data.toList) := by unfold sumT; rw [e]
  rw [e2]
  exact h2
theorem plusB {s : Nat → L2 → Bool} {k : Nat} {x : L2} (hx : l[k]? = some x) (h : s k x = true) : Ret 99 #[.string (sumT s (fun x => massD (valsD m) x.1) l k), .string (atT m x.1)] (.string (sumT s (fun x => massD (valsD m) x.1) l (k + 1))) := by
  have e : selS s (fun x => massD (valsD m) x.1) 0 (l.take (k + 1)) = selS s (fun x => massD (valsD m) x.1) 0 (l.take k) + massD (valsD m) x.1 := by rw [selS_take hx, h, if_pos rfl]
  have h2 := dplus_T (sumB_T hl hm s k) (at_T hm x.1) (by rw [← e]; exact (sumB_T hl hm s (k + 1)).fits)
  have e2 : sumT s (fun x => massD (valsD m) x.1) l (k + 1) = rT (selS s (fun x => massD (valsD m) x.1) 0 (l.take k) + massD (valsD m) x.1) := by unfold sumT; rw [e]
  rw [e2]
  exact h2
variable {f : ByteArray} (hf : errQ f.data.toList = 0) (h0 : 0 ≤ valQ f.data.toList) (sf : Sz 24 (valQ f.data.toList))
include hf h0 sf
omit hl h0 in
theorem timesAt (k : ByteArray) : ∃ t, Ret 101 #[.string f, .string (atT m k)] (.string t) ∧ IsT t (valQ f.data.toList * massD (valsD m) k) := by
  have s1 : Sz 409 (valQ f.data.toList * massD (valsD m) k) := by
    have h := atT_sz (k := 385) (by decide) (fun x hx => hm.sz hx) (key := k)
    rw [atT_val hm.once] at h
    exact sf.mul h
  have hfit : fits (valQ f.data.toList * massD (valsD m) k) = true := fits_sz.2 (s1.mono (by decide))
  exact ⟨_, dtimes_T (IsT.of hf) (at_T hm k) hfit, isT_rT hfit⟩
theorem set_end (s : Nat → L2 → Bool) : ∃ t r, Ret 101 #[.string f, .string (sumT s (fun x => massD (valsD m) x.1) l l.length)] (.string t) ∧
    Ret 99 #[.string t, .string (rT (deltaD (valsD l) (valsD m) (valQ f.data.toList)))] (.string r) ∧
    IsT r (valQ f.data.toList * selS s (fun x => massD (valsD m) x.1) 0 l + deltaD (valsD l) (valsD m) (valQ f.data.toList)) := by
  have sB := selB_sz hl hm s l.length
  have TB := sumB_T hl hm s l.length
  rw [List.take_length] at sB TB
  have s1 := sf.mul sB
  have f1 : fits (valQ f.data.toList * selS s (fun x => massD (valsD m) x.1) 0 l) = true := fits_sz.2 (s1.mono (by decide))
  have sD := delta_sz hl hm h0 sf
  have fD : fits (deltaD (valsD l) (valsD m) (valQ f.data.toList)) = true := fits_sz.2 (sD.mono (by decide))
  have f2 : fits (valQ f.data.toList * selS s (fun x => massD (valsD m) x.1) 0 l + deltaD (valsD l) (valsD m) (valQ f.data.toList)) = true := fits_sz.2 ((s1.add sD).mono (by decide))
  exact ⟨_, _, dtimes_T (IsT.of hf) TB f1, dplus_T (isT_rT f1) (isT_rT fD) f2, isT_rT f2⟩
end
end Go.Proofs.YtigapglmipmbeaaGreatDoor
namespace Go.Proofs.YtigapglmipmbeaaGreatDoor
open Go.RowKit Go.Shelf
open Lim
attribute [local go_sem] Oper.semAt_some
set_option maxRecDepth 100000 in
set_option maxHeartbeats 16000000 in
theorem distSets_any (a b : List L2) (va vb : Value) (f : ByteArray) (n : Int) (w : World) (ha : LRowW w va a) (hb : LRowW w vb b) (hf : f.size ≤ maxLen) (hr : Res w) :
    Calls Tryz.prog 14 #[va, vb, .string f, .int .u64 n] w fun e w' => e = .returned (.bool true) ∧ Below w.heap.size w w' := by
  have N0 := Lib.hid (NW.refl hr)
  have HLV := Lib.hid (fun (w : World) hr => dlives_any w hr)
  have HMD := Lib.hid (fun (W : World) (hW : NW w W) => made8_any [a, b] (.slice (some ⟨W.heap.size, 0, none⟩) 2 2) (W.alloc (.cells #[va, vb] 22))
    (LLRow.ofBlk (vs := [(va, a), (vb, b)]) (Blk.new W 22 #[va, vb]) rfl (by simp) (fun x hx => by
      have hbw := below_alloc hW.below (.cells #[va, vb] 22)
      simp only [List.mem_cons, List.not_mem_nil, or_false] at hx
      rcases hx with rfl | rfl
      · exact ha.below hbw
      · exact hb.below hbw
    )) (by simp) (hW.alloc _).res rdmake_any)
  obtain ⟨A0, c0, rfl, _, _⟩ := id ha
  obtain ⟨A1, c1, rfl, _, _⟩ := id hb
  clear ha hb hr
  have TK0 : True := trivial
  have TK1 : True := trivial
  cases hm : madeD 16 12 24 [a, b] with
  | none =>
    rw [hm] at HMD
    change Hid (∀ W (_ : NW w W), Calls _ _ _ _ fun e w' => e = .returned (.tuple #[.slice none 0 0, .bool false]) ∧ _) at HMD
    clear hm
    go_enter Tryz.func14, Tryz.ntmps14
    go_wp2_with ((clear TK0; go_at_call 21; refine (HLV.out _ N0.out.res).mono ?_; rintro e w1 ⟨rfl, hb⟩; have N1 := Lib.hid (N0.out.later hb); clear hb))
    go_wp2_with ((clear TK1; go_at_call 97; refine (HMD.out _ N1.out).mono ?_; rintro e w2 ⟨rfl, hb⟩; have N2 := Lib.hid ((N1.out.alloc _).later hb); clear hb))
    go_wp2
    go_ret
    exact ⟨rfl, N2.out.below⟩
  | some outs =>
    obtain ⟨hol, hod⟩ := Made8.of hm
    obtain ⟨l0, l1, rfl⟩ : ∃ l0 l1, outs = [l0, l1] := by
      match outs, hol with
      | [x0, x1], _ => exact ⟨x0, x1, rfl⟩
    rw [hm] at HMD
    change Hid (∀ W (_ : NW w W), Calls _ _ _ _ fun e w' => (∃ u, e = .returned (.tuple #[u, .bool true]) ∧ LLRow w' u [l0, l1]) ∧ _) at HMD
    have M0 := hod l0 (by simp)
    have M1 := hod l1 (by simp)
    clear hm hol hod
    have HNB := Lib.hid (fun (W : World) hr => dnumber_any f W hf hr)
    have TK2 : True := trivial
    cases hnb : numberB f with
    | false =>
      rw [hnb] at HNB
      clear hnb M0 M1
      go_enter Tryz.func14, Tryz.ntmps14
      go_wp2_with ((clear TK0; go_at_call 21; refine (HLV.out _ N0.out.res).mono ?_; rintro e w1 ⟨rfl, hb⟩; have N1 := Lib.hid (N0.out.later hb); clear hb))
      go_wp2_with ((clear TK1; go_at_call 97; refine (HMD.out _ N1.out).mono ?_; rintro e w2 ⟨⟨u, rfl, hl⟩, hb⟩; obtain ⟨bb, cc, rfl, hbb, _, hcell⟩ := hl; have HCL := Lib.hid (And.intro hbb hcell); have N2 := Lib.hid ((N1.out.alloc _).later hb); clear hb hbb hcell))
      obtain ⟨B0, k0, y0, rr⟩ := LLRow.nth (j := 0) (l := l0) HCL.out.1 HCL.out.2 rfl
      have R0 := Lib.hid rr
      clear rr
      obtain ⟨B1, k1, y1, rr⟩ := LLRow.nth (j := 1) (l := l1) HCL.out.1 HCL.out.2 rfl
      have R1 := Lib.hid rr
      clear rr
      have RS := Lib.hid (fun z : LaterW w2 => N2.out.res.below z.h)
      clear HCL
      go_wp2_with ((clear TK2; go_at_call 98; refine (HNB.out _ (RS.out ⟨w2, Below.refl _ _⟩)).mono ?_; rintro e w9 ⟨rfl, hb9⟩; obtain ⟨z0, rfl⟩ := LaterW.step ⟨w2, Below.refl _ _⟩ hb9; clear hb9))
      go_wp2
      go_ret
      exact ⟨rfl, (N2.out.later z0.h).below⟩
    | true =>
      obtain ⟨fz, fe, fp⟩ := numberB_ok hnb
      have fs := sz_of_text fe (k := 24) (by rw [← size_list]; exact fz)
      rw [hnb] at HNB
      clear hnb
      have HDX := fac_delta M0.dst M1.dst fe fp fs (by decide)
      have HDC := Lib.hid (fun u v W (hu : LRow W u l0) (hv : LRow W v l1) (hr : Res W) => ddelta_any l0 l1 u v f W hu hv M0.short M1.short (by omega) hr)
      rw [HDX.1] at HDC
      have TD := HDX.2
      have H16 := M0.len
      have HAT := Lib.hid (fun u W (k : ByteArray) (hu : LRow W u l1) => (rdAt_any l1 u k W hu).mono (fun e w' h => (⟨h.1, by rw [h.2]; exact Below.refl _ _⟩ : e = .returned (.string (atT l1 k)) ∧ Below W.heap.size W w')))
      generalize hs1 : (fun (i : Nat) (_ : L2) => selB n i) = s1
      generalize hs2 : (fun (_ : Nat) (x : L2) => decide (valQ f.data.toList * massD (valsD l1) x.1 < valX x)) = s2
      have HS1 := Lib.hid hs1
      have HS2 := Lib.hid hs2
      obtain ⟨t1, r1, E1, E2, E3⟩ := set_end M0.dst M1.dst fe fp fs s1
      obtain ⟨t2, r2, E4, E5, E6⟩ := set_end M0.dst M1.dst fe fp fs s2
      have EU : r2 = sumT s2 valX l0 l0.length := by
        rw [E6.text]
        unfold sumT
        rw [List.take_length, ← hs2, selS_great]
      subst EU
      have E7 := dleast_T (sumA_T M0.dst s1 l0.length) E3 (by rw [List.take_length]; exact selS_delta s1 (valsD l1) (valQ f.data.toList) l0 0)
      have E8 := dleast_T IsT.zero TD (delta_nonneg _ _ _)
      have E9 := dleast_T TD IsT.one (delta_top M0.dst.isD M1.dst.isD fp)
      have E1 := Lib.hid E1
      have E2 := Lib.hid E2
      have E4 := Lib.hid E4
      have E5 := Lib.hid E5
      have E7 := Lib.hid E7
      have E8 := Lib.hid E8
      have E9 := Lib.hid E9
      have HFF := Lib.hid (And.intro fe (And.intro fp fs))
      clear E3 E6 HDX TD fe fp fs hs1 hs2
      generalize rT (deltaD (valsD l0) (valsD l1) (valQ f.data.toList)) = d at *
      change Hid (∀ u v W (_ : LRow W u l0) (_ : LRow W v l1) (_ : Res W), Calls _ _ _ _ fun e w' => e = .returned (.tuple #[.string d, .int .i64 0]) ∧ _) at HDC
      have TK3 : True := trivial
      have TK4 : True := trivial
      have TK5 : True := trivial
      have TK6 : True := trivial
      have TK7 : True := trivial
      have TK8 : True := trivial
      have TK9 : True := trivial
      have M0 := Lib.hid M0
      have M1 := Lib.hid M1
      go_enter Tryz.func14, Tryz.ntmps14
      go_wp2_with ((clear TK0; go_at_call 21; refine (HLV.out _ N0.out.res).mono ?_; rintro e w1 ⟨rfl, hb⟩; have N1 := Lib.hid (N0.out.later hb); clear hb))
      go_wp2_with ((clear TK1; go_at_call 97; refine (HMD.out _ N1.out).mono ?_; rintro e w2 ⟨⟨u, rfl, hl⟩, hb⟩; obtain ⟨bb, cc, rfl, hbb, _, hcell⟩ := hl; have HCL := Lib.hid (And.intro hbb hcell); have N2 := Lib.hid ((N1.out.alloc _).later hb); clear hb hbb hcell))
      obtain ⟨B0, k0, y0, rr⟩ := LLRow.nth (j := 0) (l := l0) HCL.out.1 HCL.out.2 rfl
      have R0 := Lib.hid rr
      clear rr
      obtain ⟨B1, k1, y1, rr⟩ := LLRow.nth (j := 1) (l := l1) HCL.out.1 HCL.out.2 rfl
      have R1 := Lib.hid rr
      clear rr
      have RS := Lib.hid (fun z : LaterW w2 => N2.out.res.below z.h)
      clear HCL
      go_wp2_with ((clear TK2; go_at_call 98; refine (HNB.out _ (RS.out ⟨w2, Below.refl _ _⟩)).mono ?_; rintro e w9 ⟨rfl, hb9⟩; obtain ⟨z0, rfl⟩ := LaterW.step ⟨w2, Below.refl _ _⟩ hb9; clear hb9))
      refine wp_region_wide z0 (by kernel_rfl) (by kernel_rfl) ?_
      repeat (go_big_quiet_step (first
        | (go_at_call 45; refine (HDC.out _ _ _ ((R0.out _).row (Nat.le_trans M0.out.len (by omega))) ((R1.out _).row (Nat.le_trans M1.out.len (by omega))) (RS.out _)).mono ?_; rintro e w99 ⟨rfl, hb9⟩; exact ⟨rfl, ⟨⟨w99, (LaterW.h _).trans (hb9.mono (LaterW.h _).size)⟩, rfl⟩⟩)))
      refine wpQuiet_nil ?_
      rintro _ ⟨z1, rfl⟩
      have HY0 := Lib.hid y0
      have HY1 := Lib.hid y1
      go_wp2
      go_loopw [13, 14, 15, 16, 17] (fun v13 v14 v15 v16 v17 wr => ∃ (k : Nat) (z : LaterW w2), k ≤ l0.length ∧ v13 = .string (sumT s1 valX l0 k) ∧ v14 = .string (sumT s1 (fun x => massD (valsD l1) x.1) l0 k) ∧ v15 = .string (sumT s2 valX l0 k) ∧ v16 = .string (sumT s2 (fun x => massD (valsD l1) x.1) l0 k) ∧ v17 = .int .i64 (k : Int) ∧ wr = z.W) (fun _ _ _ _ v17 _ => l0.length - (intOf v17).toNat)
      case atStart => exact ⟨0, z1, Nat.zero_le _, by rw [sumT_zero]; rfl, by rw [sumT_zero]; rfl, by rw [sumT_zero]; rfl, by rw [sumT_zero]; rfl, rfl, rfl⟩
      case round =>
        obtain ⟨k, z, hk, rfl, rfl, rfl, rfl, rfl, rfl⟩ := hrel
        by_cases hlt : k < l0.length
        · obtain ⟨x, hx⟩ : ∃ x, l0[k]? = some x := ⟨_, List.getElem?_eq_getElem hlt⟩
          have hlt' : (k : Int) < (l0.length : Int) := by omega
          have HLT := Lib.hid (And.intro hlt hlt')
          obtain ⟨b, o, rfl, x0, x1, hbx⟩ := (R0.out ⟨w2, Below.refl _ _⟩).wide2 hx
          obtain ⟨tt, HT, HTT⟩ := timesAt M1.out.dst HFF.out.1 HFF.out.2.2 x.1
          have HL := dleast_any (IsT.of (M0.out.dst.okV x (List.mem_of_getElem? hx))) HTT
          rw [show decide (cmpQ (valQ x.2.data.toList) (valQ f.data.toList * massD (valsD l1) x.1) ≤ 0) = !(s2 k x) by
            rw [← HS2.out]
            show decide _ = !decide (valQ f.data.toList * massD (valsD l1) x.1 < valQ x.2.data.toList)
            rw [← decide_not]
            exact decide_eq_decide.2 ((cmpQ_le _ _).trans Rat.not_lt.symm)] at HL
          have HT := Lib.hid HT
          have HL := Lib.hid HL
          have HAX := Lib.hid (fun u W (hu : LRow W u l1) => HAT.out u W x.1 hu)
          have A1 : s1 k x = true → _ := plusA M0.out.dst hx
          have A2 : s1 k x = true → _ := plusB M0.out.dst M1.out.dst hx
          have A3 : s2 k x = true → _ := plusA M0.out.dst hx
          have A4 : s2 k x = true → _ := plusB M0.out.dst M1.out.dst hx
          have C1 : s1 k x = false → _ := sumT_same (g := valX) hx
          have C2 : s1 k x = false → _ := sumT_same (g := fun x => massD (valsD l1) x.1) hx
          have C3 : s2 k x = false → _ := sumT_same (g := valX) hx
          have C4 : s2 k x = false → _ := sumT_same (g := fun x => massD (valsD l1) x.1) hx
          have B1 : selB n k = s1 k x := by rw [← HS1.out]
          generalize hX1 : sumT s1 valX l0 (k + 1) = X1 at *
          generalize hX2 : sumT s1 (fun x => massD (valsD l1) x.1) l0 (k + 1) = X2 at *
          generalize hX3 : sumT s2 valX l0 (k + 1) = X3 at *
          generalize hX4 : sumT s2 (fun x => massD (valsD l1) x.1) l0 (k + 1) = X4 at *
          have HX1 := Lib.hid hX1
          have HX2 := Lib.hid hX2
          have HX3 := Lib.hid hX3
          have HX4 := Lib.hid hX4
          clear hX1 hX2 hX3 hX4
          generalize sumT s1 valX l0 k = Y1 at *
          generalize sumT s1 (fun x => massD (valsD l1) x.1) l0 k = Y2 at *
          generalize sumT s2 valX l0 k = Y3 at *
          generalize sumT s2 (fun x => massD (valsD l1) x.1) l0 k = Y4 at *
          generalize atT l1 x.1 = at1 at *
          obtain ⟨f1, d1⟩ := x
          dsimp only at x0 x1 HL HT A1 A2 A3 A4 HAX
          have hk16 : k ≤ 64 := by omega
          unfold selB at B1
          clear hx hlt HAT
          cases hb1 : s1 k (f1, d1) with
          | true =>
            rw [hb1] at A1 A2 C1 C2 B1
            cases hb2 : s2 k (f1, d1) with
            | true =>
              rw [hb2] at A3 A4 C3 C4 HL
              clear hb1 hb2
              have P12 := Lib.hid (show ∀ s t r, (s = Y1 ∧ t = d1 ∧ r = X1) ∨ (s = Y2 ∧ t = at1 ∧ r = X2) → Ret 99 #[.string s, .string t] (.string r) from fun s t r h => by
                rcases h with ⟨rfl, rfl, rfl⟩ | ⟨rfl, rfl, rfl⟩
                · exact A1 rfl
                · exact A2 rfl)
              have P34 := Lib.hid (show ∀ s t r, (s = Y3 ∧ t = d1 ∧ r = X3) ∨ (s = Y4 ∧ t = at1 ∧ r = X4) → Ret 99 #[.string s, .string t] (.string r) from fun s t r h => by
                rcases h with ⟨rfl, rfl, rfl⟩ | ⟨rfl, rfl, rfl⟩
                · exact A3 rfl
                · exact A4 rfl)
              clear A1 A2 A3 A4 C1 C2 C3 C4
              go_wp2
              refine wp_region_wide z (by kernel_rfl) (by kernel_rfl) ?_
              repeat (go_big_quiet_step (first
                | (go_at_call 99; refine (P12.out _ _ _ (by first | exact .inl ⟨rfl, rfl, rfl⟩ | exact .inr ⟨rfl, rfl, rfl⟩) _ (RS.out _)).mono ?_; rintro e w99 ⟨rfl, hb9⟩; exact ⟨rfl, ⟨⟨w99, (LaterW.h _).trans (hb9.mono (LaterW.h _).size)⟩, rfl⟩⟩)
                | (go_at_call 39; refine (HAX.out _ _ ((R1.out _).row (Nat.le_trans M1.out.len (by omega)))).mono ?_; rintro e w99 ⟨rfl, hb9⟩; exact ⟨rfl, ⟨⟨w99, (LaterW.h _).trans (hb9.mono (LaterW.h _).size)⟩, rfl⟩⟩)))
              refine wpQuiet_nil ?_
              rintro _ ⟨z5, rfl⟩
              go_wp2
              refine wp_region_wide z5 (by kernel_rfl) (by kernel_rfl) ?_
              repeat (go_big_quiet_step (first
                | (go_at_call 39; refine (HAX.out _ _ ((R1.out _).row (Nat.le_trans M1.out.len (by omega)))).mono ?_; rintro e w99 ⟨rfl, hb9⟩; exact ⟨rfl, ⟨⟨w99, (LaterW.h _).trans (hb9.mono (LaterW.h _).size)⟩, rfl⟩⟩)
                | (go_at_call 101; refine (HT.out _ (RS.out _)).mono ?_; rintro e w99 ⟨rfl, hb9⟩; exact ⟨rfl, ⟨⟨w99, (LaterW.h _).trans (hb9.mono (LaterW.h _).size)⟩, rfl⟩⟩)
                | (go_at_call 100; refine (HL.out _ (RS.out _)).mono ?_; rintro e w99 ⟨rfl, hb9⟩; exact ⟨rfl, ⟨⟨w99, (LaterW.h _).trans (hb9.mono (LaterW.h _).size)⟩, rfl⟩⟩)))
              refine wpQuiet_nil ?_
              rintro _ ⟨z6, rfl⟩
              go_wp2
              refine wp_region_wide z6 (by kernel_rfl) (by kernel_rfl) ?_
              repeat (go_big_quiet_step (first
                | (go_at_call 99; refine (P34.out _ _ _ (by first | exact .inl ⟨rfl, rfl, rfl⟩ | exact .inr ⟨rfl, rfl, rfl⟩) _ (RS.out _)).mono ?_; rintro e w99 ⟨rfl, hb9⟩; exact ⟨rfl, ⟨⟨w99, (LaterW.h _).trans (hb9.mono (LaterW.h _).size)⟩, rfl⟩⟩)
                | (go_at_call 39; refine (HAX.out _ _ ((R1.out _).row (Nat.le_trans M1.out.len (by omega)))).mono ?_; rintro e w99 ⟨rfl, hb9⟩; exact ⟨rfl, ⟨⟨w99, (LaterW.h _).trans (hb9.mono (LaterW.h _).size)⟩, rfl⟩⟩)))
              refine wpQuiet_nil ?_
              rintro _ ⟨z7, rfl⟩
              go_wp2
              go_roundw
              case rel => exact ⟨k + 1, z7, HLT.out.1, by rw [HX1.out], by rw [HX2.out], by rw [HX3.out], by rw [HX4.out], by go_num, rfl⟩
              case measure => have := HLT.out.1; simp [intOf]; omega
            | false =>
              rw [hb2] at A3 A4 C3 C4 HL
              clear hb1 hb2
              have P12 := Lib.hid (show ∀ s t r, (s = Y1 ∧ t = d1 ∧ r = X1) ∨ (s = Y2 ∧ t = at1 ∧ r = X2) → Ret 99 #[.string s, .string t] (.string r) from fun s t r h => by
                rcases h with ⟨rfl, rfl, rfl⟩ | ⟨rfl, rfl, rfl⟩
                · exact A1 rfl
                · exact A2 rfl)
              obtain rfl := C3 rfl
              obtain rfl := C4 rfl
              clear A1 A2 A3 A4 C1 C2 C3 C4
              go_wp2
              refine wp_region_wide z (by kernel_rfl) (by kernel_rfl) ?_
              repeat (go_big_quiet_step (first
                | (go_at_call 99; refine (P12.out _ _ _ (by first | exact .inl ⟨rfl, rfl, rfl⟩ | exact .inr ⟨rfl, rfl, rfl⟩) _ (RS.out _)).mono ?_; rintro e w99 ⟨rfl, hb9⟩; exact ⟨rfl, ⟨⟨w99, (LaterW.h _).trans (hb9.mono (LaterW.h _).size)⟩, rfl⟩⟩)
                | (go_at_call 39; refine (HAX.out _ _ ((R1.out _).row (Nat.le_trans M1.out.len (by omega)))).mono ?_; rintro e w99 ⟨rfl, hb9⟩; exact ⟨rfl, ⟨⟨w99, (LaterW.h _).trans (hb9.mono (LaterW.h _).size)⟩, rfl⟩⟩)))
              refine wpQuiet_nil ?_
              rintro _ ⟨z5, rfl⟩
              go_wp2
              refine wp_region_wide z5 (by kernel_rfl) (by kernel_rfl) ?_
              repeat (go_big_quiet_step (first
                | (go_at_call 39; refine (HAX.out _ _ ((R1.out _).row (Nat.le_trans M1.out.len (by omega)))).mono ?_; rintro e w99 ⟨rfl, hb9⟩; exact ⟨rfl, ⟨⟨w99, (LaterW.h _).trans (hb9.mono (LaterW.h _).size)⟩, rfl⟩⟩)
                | (go_at_call 101; refine (HT.out _ (RS.out _)).mono ?_; rintro e w99 ⟨rfl, hb9⟩; exact ⟨rfl, ⟨⟨w99, (LaterW.h _).trans (hb9.mono (LaterW.h _).size)⟩, rfl⟩⟩)
                | (go_at_call 100; refine (HL.out _ (RS.out _)).mono ?_; rintro e w99 ⟨rfl, hb9⟩; exact ⟨rfl, ⟨⟨w99, (LaterW.h _).trans (hb9.mono (LaterW.h _).size)⟩, rfl⟩⟩)))
              refine wpQuiet_nil ?_
              rintro _ ⟨z6, rfl⟩
              go_wp2
              go_roundw
              case rel => exact ⟨k + 1, z6, HLT.out.1, by rw [HX1.out], by rw [HX2.out], by rw [HX3.out], by rw [HX4.out], by go_num, rfl⟩
              case measure => have := HLT.out.1; simp [intOf]; omega
          | false =>
            rw [hb1] at A1 A2 C1 C2 B1
            cases hb2 : s2 k (f1, d1) with
            | true =>
              rw [hb2] at A3 A4 C3 C4 HL
              clear hb1 hb2
              obtain rfl := C1 rfl
              obtain rfl := C2 rfl
              have P34 := Lib.hid (show ∀ s t r, (s = Y3 ∧ t = d1 ∧ r = X3) ∨ (s = Y4 ∧ t = at1 ∧ r = X4) → Ret 99 #[.string s, .string t] (.string r) from fun s t r h => by
                rcases h with ⟨rfl, rfl, rfl⟩ | ⟨rfl, rfl, rfl⟩
                · exact A3 rfl
                · exact A4 rfl)
              clear A1 A2 A3 A4 C1 C2 C3 C4
              go_wp2
              refine wp_region_wide z (by kernel_rfl) (by kernel_rfl) ?_
              repeat (go_big_quiet_step (first
                | (go_at_call 39; refine (HAX.out _ _ ((R1.out _).row (Nat.le_trans M1.out.len (by omega)))).mono ?_; rintro e w99 ⟨rfl, hb9⟩; exact ⟨rfl, ⟨⟨w99, (LaterW.h _).trans (hb9.mono (LaterW.h _).size)⟩, rfl⟩⟩)
                | (go_at_call 101; refine (HT.out _ (RS.out _)).mono ?_; rintro e w99 ⟨rfl, hb9⟩; exact ⟨rfl, ⟨⟨w99, (LaterW.h _).trans (hb9.mono (LaterW.h _).size)⟩, rfl⟩⟩)
                | (go_at_call 100; refine (HL.out _ (RS.out _)).mono ?_; rintro e w99 ⟨rfl, hb9⟩; exact ⟨rfl, ⟨⟨w99, (LaterW.h _).trans (hb9.mono (LaterW.h _).size)⟩, rfl⟩⟩)))
              refine wpQuiet_nil ?_
              rintro _ ⟨z6, rfl⟩
              go_wp2
              refine wp_region_wide z6 (by kernel_rfl) (by kernel_rfl) ?_
              repeat (go_big_quiet_step (first
                | (go_at_call 99; refine (P34.out _ _ _ (by first | exact .inl ⟨rfl, rfl, rfl⟩ | exact .inr ⟨rfl, rfl, rfl⟩) _ (RS.out _)).mono ?_; rintro e w99 ⟨rfl, hb9⟩; exact ⟨rfl, ⟨⟨w99, (LaterW.h _).trans (hb9.mono (LaterW.h _).size)⟩, rfl⟩⟩)
                | (go_at_call 39; refine (HAX.out _ _ ((R1.out _).row (Nat.le_trans M1.out.len (by omega)))).mono ?_; rintro e w99 ⟨rfl, hb9⟩; exact ⟨rfl, ⟨⟨w99, (LaterW.h _).trans (hb9.mono (LaterW.h _).size)⟩, rfl⟩⟩)))
              refine wpQuiet_nil ?_
              rintro _ ⟨z7, rfl⟩
              go_wp2
              go_roundw
              case rel => exact ⟨k + 1, z7, HLT.out.1, by rw [HX1.out], by rw [HX2.out], by rw [HX3.out], by rw [HX4.out], by go_num, rfl⟩
              case measure => have := HLT.out.1; simp [intOf]; omega
            | false =>
              rw [hb2] at A3 A4 C3 C4 HL
              clear hb1 hb2
              obtain rfl := C1 rfl
              obtain rfl := C2 rfl
              obtain rfl := C3 rfl
              obtain rfl := C4 rfl
              clear A1 A2 A3 A4 C1 C2 C3 C4
              go_wp2
              refine wp_region_wide z (by kernel_rfl) (by kernel_rfl) ?_
              repeat (go_big_quiet_step (first
                | (go_at_call 39; refine (HAX.out _ _ ((R1.out _).row (Nat.le_trans M1.out.len (by omega)))).mono ?_; rintro e w99 ⟨rfl, hb9⟩; exact ⟨rfl, ⟨⟨w99, (LaterW.h _).trans (hb9.mono (LaterW.h _).size)⟩, rfl⟩⟩)
                | (go_at_call 101; refine (HT.out _ (RS.out _)).mono ?_; rintro e w99 ⟨rfl, hb9⟩; exact ⟨rfl, ⟨⟨w99, (LaterW.h _).trans (hb9.mono (LaterW.h _).size)⟩, rfl⟩⟩)
                | (go_at_call 100; refine (HL.out _ (RS.out _)).mono ?_; rintro e w99 ⟨rfl, hb9⟩; exact ⟨rfl, ⟨⟨w99, (LaterW.h _).trans (hb9.mono (LaterW.h _).size)⟩, rfl⟩⟩)))
              refine wpQuiet_nil ?_
              rintro _ ⟨z6, rfl⟩
              go_wp2
              go_roundw
              case rel => exact ⟨k + 1, z6, HLT.out.1, by rw [HX1.out], by rw [HX2.out], by rw [HX3.out], by rw [HX4.out], by go_num, rfl⟩
              case measure => have := HLT.out.1; simp [intOf]; omega
        · have hlt' : ¬ (k : Int) < (l0.length : Int) := by omega
          obtain rfl : k = l0.length := by omega
          clear hlt
          generalize sumT s1 valX l0 l0.length = Y1 at *
          generalize sumT s1 (fun x => massD (valsD l1) x.1) l0 l0.length = Y2 at *
          generalize sumT s2 valX l0 l0.length = Y3 at *
          generalize sumT s2 (fun x => massD (valsD l1) x.1) l0 l0.length = Y4 at *
          go_wp2_with ((clear TK3; go_at_call 101; refine (E1.out _ (RS.out _)).mono ?_; rintro e w9 ⟨rfl, hb9⟩; obtain ⟨zz0, rfl⟩ := LaterW.step z hb9; clear hb9))
          go_wp2_with ((clear TK4; go_at_call 99; refine (E2.out _ (RS.out _)).mono ?_; rintro e w9 ⟨rfl, hb9⟩; obtain ⟨zz1, rfl⟩ := LaterW.step zz0 hb9; clear hb9))
          go_wp2_with ((clear TK5; go_at_call 100; refine (E7.out _ (RS.out _)).mono ?_; rintro e w9 ⟨rfl, hb9⟩; obtain ⟨zz2, rfl⟩ := LaterW.step zz1 hb9; clear hb9))
          go_wp2_with ((clear TK6; go_at_call 101; refine (E4.out _ (RS.out _)).mono ?_; rintro e w9 ⟨rfl, hb9⟩; obtain ⟨zz3, rfl⟩ := LaterW.step zz2 hb9; clear hb9))
          go_wp2_with ((clear TK7; go_at_call 99; refine (E5.out _ (RS.out _)).mono ?_; rintro e w9 ⟨rfl, hb9⟩; obtain ⟨zz4, rfl⟩ := LaterW.step zz3 hb9; clear hb9))
          go_wp2_with ((clear TK8; go_at_call 100; refine (E8.out _ (RS.out _)).mono ?_; rintro e w9 ⟨rfl, hb9⟩; obtain ⟨zz5, rfl⟩ := LaterW.step zz4 hb9; clear hb9))
          go_wp2_with ((clear TK9; go_at_call 100; refine (E9.out _ (RS.out _)).mono ?_; rintro e w9 ⟨rfl, hb9⟩; obtain ⟨zz6, rfl⟩ := LaterW.step zz5 hb9; clear hb9))
          go_wp2
          go_ret
          exact ⟨rfl, (N2.out.later zz6.h).below⟩
end Go.Proofs.YtigapglmipmbeaaGreatDoor
