/- law 08: number, least, plus, times. Walks of laws behind made: one class of later worlds for all that follows. The plain law of DistTriangle: distances as texts. No program in sight. The plain law of DistFactors: the least factor as a text. No program in sight. DistFactors, as a walk (printed by mkdlaw2.py). -/
import Derived.Test.YtigapglmipmbeaaGreatDoorRb15
import Derived.Test.YtigapglmipmbeaaGreatDoorRb16
import Derived.Test.YtigapglmipmbeaaGreatDoorRb11
import Derived.Test.YtigapglmipmbeaaGreatDoorLwDistFactors01
import Derived.Test.YtigapglmipmbeaaGreatDoorRb12
import Derived.Test.YtigapglmipmbeaaGreatDoorRb13
import Derived.Test.YtigapglmipmbeaaGreatDoorRb17
namespace Go.Proofs.YtigapglmipmbeaaGreatDoor
open Go.RowKit Go.Shelf
open Lim
def numberB (f : ByteArray) : Bool := decide (f.size ≤ 24) && ((errQ f.data.toList == 0) && decide (0 ≤ valQ f.data.toList))
set_option maxRecDepth 100000 in
theorem refSign_errB (a : ByteArray) (w : World) (ha : a.size ≤ 9223372036854775807) (he : errQ a.data.toList ≠ 0) :
    Calls Tryz.prog 110 #[.string a] w fun e w' => e = .returned (.tuple #[.int .i64 0, .int .i64 (errQ a.data.toList : Int)]) ∧ Below w.heap.size w w' := by
  have HP := Lib.hid (rq_anyB a w ha)
  have hne : ((errQ a.data.toList : Int) == 0) = false := by rw [beq_eq_false_iff_ne]; omega
  have HE := Lib.hid he
  clear he
  go_enter Tryz.func110, Tryz.ntmps110
  go_wp2_with ((go_at_call 155; refine HP.out.mono ?_; rintro e w1 ⟨v, rfl, -, hz, hb⟩; obtain rfl := hz HE.out; have HB := Lib.hid hb; clear hb hz))
  all_goals first
    | (refine bodyPost_ret (results_tmp2 rfl _ _ _) rfl ?_; exact ⟨rfl, below_alloc HB.out _⟩)
    | (exfalso; have := HE.out; omega)
    | (exfalso; simp_all)
set_option maxRecDepth 100000 in
set_option maxHeartbeats 4000000 in
theorem dnumber_walk (f : ByteArray) (c k : Int) (b : Bool) (w : World) (HC : Hid (Calls Tryz.prog 110 #[.string f] w fun e w' => e = .returned (.tuple #[.int .i64 c, .int .i64 k]) ∧ Below w.heap.size w w'))
    (hb : b = (decide (f.size ≤ 24) && ((k == 0) && decide (0 ≤ c)))) :
    Calls Tryz.prog 98 #[.string f] w fun e w' => e = .returned (.bool b) ∧ Below w.heap.size w w' := by
  by_cases h1 : f.size ≤ 24
  · have d1 : decide ((f.size : Int) ≤ 24) = true := decide_eq_true (by omega)
    rw [decide_eq_true h1, Bool.true_and] at hb
    clear h1
    by_cases h2 : (k == 0) = true
    · rw [h2, Bool.true_and] at hb
      subst hb
      go_enter Tryz.func98, Tryz.ntmps98
      go_wp2_with (go_at_call 110; refine HC.out.mono ?_; rintro e w1 ⟨rfl, hb⟩; have HB := Lib.hid hb; clear hb)
      go_ret
      exact ⟨rfl, HB.out⟩
    · have h2 : (k == 0) = false := by simpa using h2
      rw [h2, Bool.false_and] at hb
      subst hb
      go_enter Tryz.func98, Tryz.ntmps98
      go_wp2_with (go_at_call 110; refine HC.out.mono ?_; rintro e w1 ⟨rfl, hb⟩; have HB := Lib.hid hb; clear hb)
      go_ret
      exact ⟨rfl, HB.out⟩
  · have d1 : decide ((f.size : Int) ≤ 24) = false := decide_eq_false (by omega)
    rw [decide_eq_false h1, Bool.false_and] at hb
    clear h1
    subst hb
    go_enter Tryz.func98, Tryz.ntmps98
    go_wp2_with (go_at_call 110; refine HC.out.mono ?_; rintro e w1 ⟨rfl, hb⟩; have HB := Lib.hid hb; clear hb)
    go_ret
    exact ⟨rfl, HB.out⟩
theorem dnumber_any (f : ByteArray) (w : World) (hf : f.size ≤ 9223372036854775807) (hr : Res w) :
    Calls Tryz.prog 98 #[.string f] w fun e w' => e = .returned (.bool (numberB f)) ∧ Below w.heap.size w w' := by
  by_cases he : errQ f.data.toList = 0
  · refine dnumber_walk f (sgQ (valQ f.data.toList)) 0 _ w (Lib.hid (retRSign_ok (IsT.of he).size he w hr)) ?_
    unfold numberB
    rw [he]
    have : decide (0 ≤ sgQ (valQ f.data.toList)) = decide (0 ≤ valQ f.data.toList) := decide_eq_decide.2 (by
      have := sg_lt (valQ f.data.toList)
      constructor
      · intro h; exact Classical.byContradiction fun h2 => by have := this.2 (by grind); omega
      · intro h; exact Classical.byContradiction fun h2 => by have := this.1 (by omega); grind)
    rw [this]
    rfl
  · refine dnumber_walk f 0 (errQ f.data.toList : Int) _ w (Lib.hid (refSign_errB f w hf he)) ?_
    unfold numberB
    have h1 : ((errQ f.data.toList) == 0) = false := beq_eq_false_iff_ne.2 he
    have h2 : ((errQ f.data.toList : Int) == 0) = false := by rw [beq_eq_false_iff_ne]; omega
    rw [h1, h2]
    simp
theorem numberB_ok {f : ByteArray} (h : numberB f = true) : f.size ≤ 24 ∧ errQ f.data.toList = 0 ∧ 0 ≤ valQ f.data.toList := by
  unfold numberB at h
  simp only [Bool.and_eq_true, decide_eq_true_eq, beq_iff_eq] at h
  exact ⟨h.1, h.2.1, h.2.2⟩
set_option maxRecDepth 100000 in
theorem dleast_any {a b : ByteArray} {p q : Rat} (ha : IsT a p) (hb : IsT b q) : Ret 100 #[.string a, .string b] (.bool (decide (cmpQ p q ≤ 0))) := fun w _ => by
  have HC := Lib.hid (rcmpT w ha hb)
  generalize cmpQ p q = x at *
  clear ha hb
  go_enter Tryz.func100, Tryz.ntmps100
  go_wp2_with (go_at_call 119; refine HC.out.mono ?_; rintro e w1 ⟨rfl, hb⟩; have HB := Lib.hid hb; clear hb)
  go_ret
  exact ⟨rfl, HB.out⟩
theorem dleast_T {a b : ByteArray} {p q : Rat} (ha : IsT a p) (hb : IsT b q) (h : p ≤ q) : Ret 100 #[.string a, .string b] (.bool true) := by
  have := dleast_any ha hb
  rwa [decide_eq_true ((cmpQ_le p q).2 h)] at this
set_option maxRecDepth 100000 in
theorem dplus_T {a b : ByteArray} {p q : Rat} (ha : IsT a p) (hb : IsT b q) (hf : fits (p + q) = true) : Ret 99 #[.string a, .string b] (.string (rT (p + q))) := fun w hr => by
  have HC := retRPlX ha.size hb.size
  rw [plX_val ha.err hb.err, ha.val, hb.val, ovT_fit hf] at HC
  have HC := Lib.hid HC
  change Hid (Ret _ _ (.tuple #[.string _, .int .i64 0])) at HC
  clear ha hb hf
  generalize rT (p + q) = x at *
  go_enter Tryz.func99, Tryz.ntmps99
  go_wp2_with (go_at_call 59; refine (HC.out _ hr).mono ?_; rintro e w1 ⟨rfl, hb⟩; have HB := Lib.hid hb; clear hb)
  go_ret
  exact ⟨rfl, HB.out⟩
set_option maxRecDepth 100000 in
theorem dtimes_T {a b : ByteArray} {p q : Rat} (ha : IsT a p) (hb : IsT b q) (hf : fits (p * q) = true) : Ret 101 #[.string a, .string b] (.string (rT (p * q))) := fun w hr => by
  have HC := retRMulX ha.size hb.size
  rw [mulX_val ha.err hb.err, ha.val, hb.val, ovT_fit hf] at HC
  have HC := Lib.hid HC
  change Hid (Ret _ _ (.tuple #[.string _, .int .i64 0])) at HC
  clear ha hb hf
  generalize rT (p * q) = x at *
  go_enter Tryz.func101, Tryz.ntmps101
  go_wp2_with (go_at_call 149; refine (HC.out _ hr).mono ?_; rintro e w1 ⟨rfl, hb⟩; have HB := Lib.hid hb; clear hb)
  go_ret
  exact ⟨rfl, HB.out⟩
end Go.Proofs.YtigapglmipmbeaaGreatDoor
namespace Go.Proofs.YtigapglmipmbeaaGreatDoor
open Go.RowKit Go.Shelf
open Lim
section
variable {P : Program} {id : Nat} {Q : Exit → Act → World → Prop} {a : Act} {w0 : World} {l : List Oper}
theorem wp_region_wide (x : LaterW w0) (hm : P.follows .mixedOrders = true) (hB : Region.lexB .any l.toArray = true)
    (h : wpQuiet P l.toArray (fun W => ∃ x : LaterW w0, W = x.W) (fun a' => ∀ W, (∃ x : LaterW w0, W = x.W) → Q .normal a' W) l a) : (Code.region id l.toArray true).wp P Q a x.W :=
  wp_region_quiet (C := fun W => ∃ x : LaterW w0, W = x.W) hm hB ⟨⟨{ x.W with drawn := x.W.drawn + 1 }, x.h.trans ⟨rfl, rfl, rfl, Nat.le_refl _, fun _ _ => rfl⟩⟩, rfl⟩ (by simpa using h)
end
theorem LaterW.step {w0 : World} (z : LaterW w0) {W : World} (hb : Below z.W.heap.size z.W W) : ∃ x : LaterW w0, W = x.W := ⟨⟨W, z.h.trans (hb.mono z.h.size)⟩, rfl⟩
theorem LLRow.nth {w : World} {bb j : Nat} {outs : List (List L2)} {l : List L2} (hbb : bb < w.heap.size) (h : ∀ (j : Nat) (ls : List L2), outs[j]? = some ls → ∃ u, w.cell? ⟨bb, j, none⟩ = some u ∧ LRowW w u ls) (hj : outs[j]? = some l) :
    ∃ A c, (∀ z : LaterW w, z.W.cell? ⟨bb, j, none⟩ = some (.slice A l.length c)) ∧ ∀ z : LaterW w, LRowW z.W (.slice A l.length c) l := by
  obtain ⟨u, h1, h2⟩ := h j l hj
  obtain ⟨A, c, rfl, _, _⟩ := id h2
  exact ⟨A, c, fun z => (z.h.cell (p := ⟨bb, j, none⟩) hbb).trans h1, fun z => h2.below z.h⟩
theorem LRowW.wide2 {w : World} {A : Option Addr} {n c k : Nat} {x : L2} {ls : List L2} (h : LRowW w (.slice A n c) ls) (hx : ls[k]? = some x) :
    ∃ b o, A = some ⟨b, o, none⟩ ∧ (∀ z : LaterW w, z.W.cell? ⟨b, o + k * 2, none⟩ = some (.string x.1)) ∧ (∀ z : LaterW w, z.W.cell? ⟨b, o + k * 2 + 1, none⟩ = some (.string x.2)) ∧ ∀ z : LaterW w, b < z.W.heap.size := by
  obtain ⟨b, o, c', e, hb, c0, c1⟩ := h.at (Below.refl _ _) hx
  simp only [Value.slice.injEq] at e
  exact ⟨b, o, e.1, LaterW.at hb c0, LaterW.at hb c1, fun z => Nat.lt_of_lt_of_le hb z.h.size⟩
structure Made8 (l : List L2) : Prop where
  len : l.length ≤ 16
  key : ∀ x ∈ l, x.1.size ≤ 12
  txt : ∀ x ∈ l, x.2.size ≤ 24
  dst : Dst 385 l
theorem Made8.short {l : List L2} (h : Made8 l) : Short l := fun x hx => ⟨Nat.le_trans (h.key x hx) (by omega), Nat.le_trans (h.txt x hx) (by omega)⟩
theorem Made8.of {lss outs : List (List L2)} (h : madeD 16 12 24 lss = some outs) : outs.length = lss.length ∧ ∀ d ∈ outs, Made8 d := by
  obtain ⟨h1, h2⟩ := madeD_spec h
  refine ⟨h1, fun d hd => ?_⟩
  obtain ⟨h3, h4⟩ := h2 d hd
  obtain ⟨l1, l2⟩ := lightD_iff.1 h3
  exact ⟨l1, fun x hx => (l2 x hx).1, fun x hx => (l2 x hx).2, h4⟩
end Go.Proofs.YtigapglmipmbeaaGreatDoor
namespace Go.Proofs.YtigapglmipmbeaaGreatDoor
open Lim
theorem mass_mem {ls : List L2} {a : Nat} (h : Dst a ls) {x : L2} (hx : x ∈ ls) : massD (valsD ls) x.1 = valX x := massD_at (l := valsD ls) (by rw [keys_vals]; exact h.once) (vals_mem hx)
theorem text_eq {s t : ByteArray} (hs : errQ s.data.toList = 0) (ht : errQ t.data.toList = 0) (h : valQ s.data.toList = valQ t.data.toList) : s = t := by rw [ok_rT hs, ok_rT ht, h]
theorem dst_sub {l m : List L2} {a b : Nat} (hl : Dst a l) (hm : Dst b m) (h : ∀ k, massD (valsD l) k = massD (valsD m) k) {x : L2} (hx : x ∈ l) : x ∈ m := by
  have h1 := mass_mem hl hx
  have h2 : 0 < massD (valsD m) x.1 := by rw [← h, h1]; exact hl.pos hx
  have h3 := (hm.isD.pos_iff _).1 h2
  rw [keys_vals] at h3
  obtain ⟨y, hy, e⟩ := List.mem_map.1 h3
  have h4 := mass_mem hm hy
  rw [e, ← h, h1] at h4
  have h5 : x.2 = y.2 := text_eq (hl.okV x hx) (hm.okV y hy) h4
  have h6 : x = y := Prod.ext e.symm h5
  rw [h6]; exact hy
theorem dst_eq {l m : List L2} {a b : Nat} (hl : Dst a l) (hm : Dst b m) (h : ∀ k, massD (valsD l) k = massD (valsD m) k) : l = m := by
  have n1 : l.Nodup := List.Pairwise.of_map (·.1) (fun _ _ h e => h (congrArg _ e)) hl.once
  have n2 : m.Nodup := List.Pairwise.of_map (·.1) (fun _ _ h e => h (congrArg _ e)) hm.once
  have hp : l.Perm m := (List.perm_ext_iff_of_nodup n1 n2).2 fun x => ⟨fun hx => dst_sub hl hm h hx, fun hx => dst_sub hm hl (fun k => (h k).symm) hx⟩
  refine hp.eq_of_pairwise (le := fun x y => ltK x.1 y.1 = true) (fun x y _ _ h1 h2 => ?_) ?_ ?_
  · have := ltK_asymm h1
    rw [h2] at this
    cases this
  · have := hl.asc
    unfold Asc at this
    rwa [List.pairwise_map] at this
  · have := hm.asc
    unfold Asc at this
    rwa [List.pairwise_map] at this
theorem delta_sz {p q : List L2} {f : Rat} {a b j : Nat} (hp : Dst a p) (hq : Dst b q) (h0 : 0 ≤ f) (sf : Sz j f) : Sz (a + (j + b)) (deltaD (valsD p) (valsD q) f) := by
  obtain ⟨D, d1, d2, d3⟩ := hp.den
  obtain ⟨E, e1, e2, e3⟩ := hq.den
  have hD : 0 < D * (f.den * E) := Nat.mul_pos d1 (Nat.mul_pos f.den_pos e1)
  have hlt : D * (f.den * E) < 10 ^ (a + (j + b)) := mul_lt_pow d2 (mul_lt_pow sf.2 e2)
  have ht := delta_top hp.isD hq.isD h0
  have hn := delta_nonneg (valsD p) (valsD q) f
  rw [deltaD_vals hq.once] at ht hn ⊢
  exact (HasDen.sum fun m hm => HasDen.pos (((d3 m hm).mul_right _).sub (((HasDen.self f).mul (atT_has e3)).mul_left _))).sz hD hn (M := 1) ht (by omega) Nat.one_pos
def distT (l m : List L2) : ByteArray := rT (deltaD (valsD l) (valsD m) 1)
section
variable {l m n : List L2} (hl : Dst 385 l) (hm : Dst 385 m) (hn : Dst 385 n)
include hl hm
theorem dist_fit : deltaX l m oT = .ok (distT l m) ∧ IsT (distT l m) (deltaD (valsD l) (valsD m) 1) := by
  have h := deltaX_fit (j := 1) hl hm err_oT (by rw [val_oT]; decide) (by rw [val_oT]; exact Sz.one) (by decide) (by decide)
  rw [val_oT] at h
  exact ⟨h.1, isT_rT h.2⟩
theorem dist_symm : distT l m = distT m l := by unfold distT; rw [delta_symm hl.isD hm.isD]
theorem dist_top : deltaD (valsD l) (valsD m) 1 ≤ 1 := delta_top hl.isD hm.isD (by decide)
theorem dist_zero : decide (distT l m = zT) = sameX l m := by
  refine decide_eq_decide.2 ?_
  have hT := (dist_fit hl hm).2
  rw [zero_text hT.err, hT.val]
  constructor
  · intro h; exact dst_eq hl hm (delta_same hl.isD hm.isD h)
  · intro h
    subst h
    exact delta_zero.2 fun e he => by
      obtain ⟨x, hx, rfl⟩ := List.mem_map.1 he
      have := mass_mem hl hx
      show valX x ≤ 1 * massD (valsD l) x.1
      rw [this, Rat.one_mul]
      exact Rat.le_refl
include hn
theorem dist_sum : fits (deltaD (valsD l) (valsD m) 1 + deltaD (valsD m) (valsD n) 1) = true := by
  have h1 := delta_sz hl hm (f := 1) (by decide) Sz.one
  have h2 := delta_sz hm hn (f := 1) (by decide) Sz.one
  exact fits_sz.2 ((h1.add h2).mono (by decide))
theorem dist_tri : deltaD (valsD l) (valsD n) 1 ≤ deltaD (valsD l) (valsD m) 1 + deltaD (valsD m) (valsD n) 1 := delta_triangle hl.isD hm.isD hn.isD
end
end Go.Proofs.YtigapglmipmbeaaGreatDoor
namespace Go.Proofs.YtigapglmipmbeaaGreatDoor
open Lim
theorem most_sz {q : DL} {k : Nat} : ∀ {p : DL} {m : Rat}, Sz k m → (∀ e ∈ p, Sz k (e.2 * (massD q e.1)⁻¹)) → Sz k (mostD p q m)
  | [], m, h, _ => h
  | e :: l, m, h, h2 => by
    refine most_sz (p := l) (m := maxQ m (e.2 * (massD q e.1)⁻¹)) ?_ fun x hx => h2 x (by simp [hx])
    unfold maxQ
    split
    · exact h2 e (by simp)
    · exact h
def facT (l m : List L2) : ByteArray := rT (mostD (valsD l) (valsD m) 0)
section
variable {l m : List L2} (hl : Dst 385 l) (hm : Dst 385 m)
include hl hm
omit hl hm in
theorem in_keys (hin : inX l m = true) : ∀ e ∈ valsD l, e.1 ∈ keysD (valsD m) := fun e he => by
  obtain ⟨x, hx, rfl⟩ := List.mem_map.1 he
  rw [keys_vals]
  exact inX_iff.1 hin x hx
theorem fac_sz (hin : inX l m = true) : Sz 770 (mostD (valsD l) (valsD m) 0) := by
  refine most_sz (Sz.zero.mono (by decide)) fun e he => ?_
  obtain ⟨x, hx, rfl⟩ := List.mem_map.1 he
  obtain ⟨y, hy, e1⟩ := List.mem_map.1 (inX_iff.1 hin x hx)
  have h1 := mass_mem hm hy
  rw [e1] at h1
  show Sz 770 (valX x * (massD (valsD m) x.1)⁻¹)
  rw [h1]
  exact Sz.mono ((hl.sz hx).mul (hm.sz hy).inv) (Nat.le_of_eq rfl)
theorem fac_fit (hin : inX l m = true) : facV l m = .tuple #[.string (facT l m), .bool true, .int .i64 0] ∧ IsT (facT l m) (mostD (valsD l) (valsD m) 0) := by
  have h := facV_fit (k := 385) hl.ok hm.ok (fun x hx => hl.sz hx) (fun x hx => hm.sz hx) (by decide) hin
  exact ⟨h.1, isT_rT h.2⟩
theorem fac_one (hin : inX l m = true) : 1 ≤ mostD (valsD l) (valsD m) 0 := most_one hl.isD hm.isD (in_keys hin)
theorem fac_delta {f : ByteArray} {j : Nat} (hf : errQ f.data.toList = 0) (h0 : 0 ≤ valQ f.data.toList) (sf : Sz j (valQ f.data.toList)) (hj : 385 + (j + 385) + 1 ≤ maxD) :
    deltaX l m f = .ok (rT (deltaD (valsD l) (valsD m) (valQ f.data.toList))) ∧ IsT (rT (deltaD (valsD l) (valsD m) (valQ f.data.toList))) (deltaD (valsD l) (valsD m) (valQ f.data.toList)) := by
  have h := deltaX_fit (j := j) hl hm hf h0 sf hj (by decide)
  exact ⟨h.1, isT_rT h.2⟩
omit hl in
theorem fac_iff (hin : inX l m = true) {f : Rat} (h0 : 0 ≤ f) : mostD (valsD l) (valsD m) 0 ≤ f ↔ deltaD (valsD l) (valsD m) f = 0 := most_iff hm.isD (in_keys hin) h0
theorem fac_none (hin : inX l m = true) : deltaD (valsD l) (valsD m) (mostD (valsD l) (valsD m) 0) = 0 :=
  (fac_iff hm hin (Rat.le_trans (by decide) (fac_one hl hm hin))).1 Rat.le_refl
omit hm in
theorem fac_out (hin : inX l m = false) (f : Rat) : deltaD (valsD l) (valsD m) f ≠ 0 := fun h => by
  have hn : ¬ ∀ x ∈ l, x.1 ∈ m.map (·.1) := fun h2 => by rw [inX_iff.2 h2] at hin; cases hin
  refine hn fun x hx => Classical.byContradiction fun h3 => ?_
  have h4 := delta_zero.1 h (x.1, valX x) (vals_mem hx)
  have h5 : massD (valsD m) x.1 = 0 := massD_none (by rw [keys_vals]; exact h3)
  have h6 := hl.pos hx
  simp only [h5, Rat.mul_zero] at h4
  grind
end
end Go.Proofs.YtigapglmipmbeaaGreatDoor
namespace Go.Proofs.YtigapglmipmbeaaGreatDoor
open Go.RowKit Go.Shelf
open Lim
attribute [local go_sem] Oper.semAt_some
set_option maxRecDepth 100000 in
set_option maxHeartbeats 16000000 in
theorem distFactors_any (a b : List L2) (va vb : Value) (f : ByteArray) (w : World) (ha : LRowW w va a) (hb : LRowW w vb b) (hf : f.size ≤ maxLen) (hr : Res w) :
    Calls Tryz.prog 16 #[va, vb, .string f] w fun e w' => e = .returned (.bool true) ∧ Below w.heap.size w w' := by
  have N0 := Lib.hid (NW.refl hr)
  have HLV := Lib.hid (fun (w : World) hr => dlives_any w hr)
  have HMD := Lib.hid (fun (W : World) (hW : NW w W) => made8_any [a, b] (.slice (some ⟨W.heap.size, 0, none⟩) 2 2) (W.alloc (.cells #[va, vb] 22))
    (LLRow.ofBlk (vs := [(va, a), (vb, b)]) (Blk.new W 22 #[va, vb]) rfl (by simp) (fun x hx => by
      have hbw := below_alloc hW.below (.cells #[va, vb] 22)
      simp only [List.mem_cons, List.not_mem_nil, or_false] at hx
      rcases hx with rfl | rfl
      · exact ha.below hbw
      · exact hb.below hbw
    )) (by simp) (hW.alloc _).res rdmake_any)
  obtain ⟨A0, c0, rfl, _, _⟩ := id ha
  obtain ⟨A1, c1, rfl, _, _⟩ := id hb
  clear ha hb hr
  have TK0 : True := trivial
  have TK1 : True := trivial
  cases hm : madeD 16 12 24 [a, b] with
  | none =>
    rw [hm] at HMD
    change Hid (∀ W (_ : NW w W), Calls _ _ _ _ fun e w' => e = .returned (.tuple #[.slice none 0 0, .bool false]) ∧ _) at HMD
    clear hm
    go_enter Tryz.func16, Tryz.ntmps16
    go_wp2_with ((clear TK0; go_at_call 21; refine (HLV.out _ N0.out.res).mono ?_; rintro e w1 ⟨rfl, hb⟩; have N1 := Lib.hid (N0.out.later hb); clear hb))
    go_wp2_with ((clear TK1; go_at_call 97; refine (HMD.out _ N1.out).mono ?_; rintro e w2 ⟨rfl, hb⟩; have N2 := Lib.hid ((N1.out.alloc _).later hb); clear hb))
    go_wp2
    go_ret
    exact ⟨rfl, N2.out.below⟩
  | some outs =>
    obtain ⟨hol, hod⟩ := Made8.of hm
    obtain ⟨l0, l1, rfl⟩ : ∃ l0 l1, outs = [l0, l1] := by
      match outs, hol with
      | [x0, x1], _ => exact ⟨x0, x1, rfl⟩
    rw [hm] at HMD
    change Hid (∀ W (_ : NW w W), Calls _ _ _ _ fun e w' => (∃ u, e = .returned (.tuple #[u, .bool true]) ∧ LLRow w' u [l0, l1]) ∧ _) at HMD
    have M0 := hod l0 (by simp)
    have M1 := hod l1 (by simp)
    clear hm hol hod
    have HNB := Lib.hid (fun (W : World) hr => dnumber_any f W hf hr)
    have TK2 : True := trivial
    cases hnb : numberB f with
    | false =>
      rw [hnb] at HNB
      clear hnb M0 M1
      go_enter Tryz.func16, Tryz.ntmps16
      go_wp2_with ((clear TK0; go_at_call 21; refine (HLV.out _ N0.out.res).mono ?_; rintro e w1 ⟨rfl, hb⟩; have N1 := Lib.hid (N0.out.later hb); clear hb))
      go_wp2_with ((clear TK1; go_at_call 97; refine (HMD.out _ N1.out).mono ?_; rintro e w2 ⟨⟨u, rfl, hl⟩, hb⟩; obtain ⟨bb, cc, rfl, hbb, _, hcell⟩ := hl; have HCL := Lib.hid (And.intro hbb hcell); have N2 := Lib.hid ((N1.out.alloc _).later hb); clear hb hbb hcell))
      obtain ⟨B0, k0, y0, rr⟩ := LLRow.nth (j := 0) (l := l0) HCL.out.1 HCL.out.2 rfl
      have R0 := Lib.hid rr
      clear rr
      obtain ⟨B1, k1, y1, rr⟩ := LLRow.nth (j := 1) (l := l1) HCL.out.1 HCL.out.2 rfl
      have R1 := Lib.hid rr
      clear rr
      have RS := Lib.hid (fun z : LaterW w2 => N2.out.res.below z.h)
      clear HCL
      go_wp2_with ((clear TK2; go_at_call 98; refine (HNB.out _ (RS.out ⟨w2, Below.refl _ _⟩)).mono ?_; rintro e w9 ⟨rfl, hb9⟩; obtain ⟨z0, rfl⟩ := LaterW.step ⟨w2, Below.refl _ _⟩ hb9; clear hb9))
      go_wp2
      go_ret
      exact ⟨rfl, (N2.out.later z0.h).below⟩
    | true =>
      obtain ⟨fz, fe, fp⟩ := numberB_ok hnb
      have fs := sz_of_text fe (k := 24) (by rw [← size_list]; exact fz)
      rw [hnb] at HNB
      clear hnb
      have HDX := fac_delta M0.dst M1.dst fe fp fs (by decide)
      have HDC := Lib.hid (fun u v W (hu : LRow W u l0) (hv : LRow W v l1) (hr : Res W) => ddelta_any l0 l1 u v f W hu hv M0.short M1.short (by omega) hr)
      rw [HDX.1] at HDC
      have HFC := Lib.hid (fun u v W (hu : LRow W u l0) (hv : LRow W v l1) (hr : Res W) => dfactor_any l0 l1 u v W hu hv M0.short M1.short hr)
      have TE := eq_bytes (rT (deltaD (valsD l0) (valsD l1) (valQ f.data.toList))) zT
      rw [zT_list] at TE
      have TK3 : True := trivial
      have TK4 : True := trivial
      cases hin : inX l0 l1 with
      | false =>
        rw [facV_out M0.dst.ok M1.dst.ok hin] at HFC
        have hne := fac_out M0.dst hin (valQ f.data.toList)
        rw [decide_eq_false (fun h => hne (by have := (zero_text HDX.2.err).1 h; rwa [HDX.2.val] at this))] at TE
        generalize rT (deltaD (valsD l0) (valsD l1) (valQ f.data.toList)) = d at *
        change Hid (∀ u v W (_ : LRow W u l0) (_ : LRow W v l1) (_ : Res W), Calls _ _ _ _ fun e w' => e = .returned (.tuple #[.string d, .int .i64 0]) ∧ _) at HDC
        clear HDX fe fp fs hin hne
        have M0 := Lib.hid M0
        have M1 := Lib.hid M1
        go_enter Tryz.func16, Tryz.ntmps16
        go_wp2_with ((clear TK0; go_at_call 21; refine (HLV.out _ N0.out.res).mono ?_; rintro e w1 ⟨rfl, hb⟩; have N1 := Lib.hid (N0.out.later hb); clear hb))
        go_wp2_with ((clear TK1; go_at_call 97; refine (HMD.out _ N1.out).mono ?_; rintro e w2 ⟨⟨u, rfl, hl⟩, hb⟩; obtain ⟨bb, cc, rfl, hbb, _, hcell⟩ := hl; have HCL := Lib.hid (And.intro hbb hcell); have N2 := Lib.hid ((N1.out.alloc _).later hb); clear hb hbb hcell))
        obtain ⟨B0, k0, y0, rr⟩ := LLRow.nth (j := 0) (l := l0) HCL.out.1 HCL.out.2 rfl
        have R0 := Lib.hid rr
        clear rr
        obtain ⟨B1, k1, y1, rr⟩ := LLRow.nth (j := 1) (l := l1) HCL.out.1 HCL.out.2 rfl
        have R1 := Lib.hid rr
        clear rr
        have RS := Lib.hid (fun z : LaterW w2 => N2.out.res.below z.h)
        clear HCL
        go_wp2_with ((clear TK2; go_at_call 98; refine (HNB.out _ (RS.out ⟨w2, Below.refl _ _⟩)).mono ?_; rintro e w9 ⟨rfl, hb9⟩; obtain ⟨z0, rfl⟩ := LaterW.step ⟨w2, Below.refl _ _⟩ hb9; clear hb9))
        refine wp_region_wide z0 (by kernel_rfl) (by kernel_rfl) ?_
        repeat (go_big_quiet_step (first
          | (go_at_call 47; refine (HFC.out _ _ _ ((R0.out _).row (Nat.le_trans M0.out.len (by omega))) ((R1.out _).row (Nat.le_trans M1.out.len (by omega))) (RS.out _)).mono ?_; rintro e w99 ⟨rfl, hb9⟩; exact ⟨rfl, ⟨⟨w99, (LaterW.h _).trans (hb9.mono (LaterW.h _).size)⟩, rfl⟩⟩)))
        refine wpQuiet_nil ?_
        rintro _ ⟨z1, rfl⟩
        go_wp2
        refine wp_region_wide z1 (by kernel_rfl) (by kernel_rfl) ?_
        repeat (go_big_quiet_step (first
          | (go_at_call 45; refine (HDC.out _ _ _ ((R0.out _).row (Nat.le_trans M0.out.len (by omega))) ((R1.out _).row (Nat.le_trans M1.out.len (by omega))) (RS.out _)).mono ?_; rintro e w99 ⟨rfl, hb9⟩; exact ⟨rfl, ⟨⟨w99, (LaterW.h _).trans (hb9.mono (LaterW.h _).size)⟩, rfl⟩⟩)))
        refine wpQuiet_nil ?_
        rintro _ ⟨z2, rfl⟩
        go_wp2
        go_ret
        exact ⟨rfl, (N2.out.later z2.h).below⟩
      | true =>
        have HFX := fac_fit M0.dst M1.dst hin
        rw [HFX.1] at HFC
        have h1 := fac_one M0.dst M1.dst hin
        have HRX := fac_delta M0.dst M1.dst HFX.2.err (by rw [HFX.2.val]; exact Rat.le_trans (by decide) h1) (by rw [HFX.2.val]; exact fac_sz M0.dst M1.dst hin) (by decide)
        rw [HFX.2.val, fac_none M0.dst M1.dst hin, show rT 0 = zT from IsT.zero.text.symm] at HRX
        have HRC := Lib.hid (fun u v W (hu : LRow W u l0) (hv : LRow W v l1) (hr : Res W) => ddelta_any l0 l1 u v (facT l0 l1) W hu hv M0.short M1.short HFX.2.size hr)
        rw [HRX.1] at HRC
        have L1 := Lib.hid (dleast_T IsT.one HFX.2 h1)
        have TZ : (zT.toList == [48]) = true := by rw [zT_list]; rfl
        have L2 := dleast_any HFX.2 (IsT.of fe)
        have hiff := fac_iff M1.dst hin fp
        rw [show decide (rT (deltaD (valsD l0) (valsD l1) (valQ f.data.toList)) = zT) = decide (mostD (valsD l0) (valsD l1) 0 ≤ valQ f.data.toList) from decide_eq_decide.2 (by rw [zero_text HDX.2.err, HDX.2.val]; exact hiff.symm)] at TE
        rw [show decide (cmpQ (mostD (valsD l0) (valsD l1) 0) (valQ f.data.toList) ≤ 0) = decide (mostD (valsD l0) (valsD l1) 0 ≤ valQ f.data.toList) from decide_eq_decide.2 (cmpQ_le _ _)] at L2
        have L2 := Lib.hid L2
        generalize decide (mostD (valsD l0) (valsD l1) 0 ≤ valQ f.data.toList) = sb at *
        generalize rT (deltaD (valsD l0) (valsD l1) (valQ f.data.toList)) = d at *
        generalize facT l0 l1 = r at *
        change Hid (∀ u v W (_ : LRow W u l0) (_ : LRow W v l1) (_ : Res W), Calls _ _ _ _ fun e w' => e = .returned (.tuple #[.string d, .int .i64 0]) ∧ _) at HDC
        change Hid (∀ u v W (_ : LRow W u l0) (_ : LRow W v l1) (_ : Res W), Calls _ _ _ _ fun e w' => e = .returned (.tuple #[.string zT, .int .i64 0]) ∧ _) at HRC
        clear HDX HFX HRX fe fp fs hin hiff h1
        have M0 := Lib.hid M0
        have M1 := Lib.hid M1
        cases sb
        all_goals
          go_enter Tryz.func16, Tryz.ntmps16
          go_wp2_with ((clear TK0; go_at_call 21; refine (HLV.out _ N0.out.res).mono ?_; rintro e w1 ⟨rfl, hb⟩; have N1 := Lib.hid (N0.out.later hb); clear hb))
          go_wp2_with ((clear TK1; go_at_call 97; refine (HMD.out _ N1.out).mono ?_; rintro e w2 ⟨⟨u, rfl, hl⟩, hb⟩; obtain ⟨bb, cc, rfl, hbb, _, hcell⟩ := hl; have HCL := Lib.hid (And.intro hbb hcell); have N2 := Lib.hid ((N1.out.alloc _).later hb); clear hb hbb hcell))
          obtain ⟨B0, k0, y0, rr⟩ := LLRow.nth (j := 0) (l := l0) HCL.out.1 HCL.out.2 rfl
          have R0 := Lib.hid rr
          clear rr
          obtain ⟨B1, k1, y1, rr⟩ := LLRow.nth (j := 1) (l := l1) HCL.out.1 HCL.out.2 rfl
          have R1 := Lib.hid rr
          clear rr
          have RS := Lib.hid (fun z : LaterW w2 => N2.out.res.below z.h)
          clear HCL
          go_wp2_with ((clear TK2; go_at_call 98; refine (HNB.out _ (RS.out ⟨w2, Below.refl _ _⟩)).mono ?_; rintro e w9 ⟨rfl, hb9⟩; obtain ⟨z0, rfl⟩ := LaterW.step ⟨w2, Below.refl _ _⟩ hb9; clear hb9))
          refine wp_region_wide z0 (by kernel_rfl) (by kernel_rfl) ?_
          repeat (go_big_quiet_step (first
            | (go_at_call 47; refine (HFC.out _ _ _ ((R0.out _).row (Nat.le_trans M0.out.len (by omega))) ((R1.out _).row (Nat.le_trans M1.out.len (by omega))) (RS.out _)).mono ?_; rintro e w99 ⟨rfl, hb9⟩; exact ⟨rfl, ⟨⟨w99, (LaterW.h _).trans (hb9.mono (LaterW.h _).size)⟩, rfl⟩⟩)))
          refine wpQuiet_nil ?_
          rintro _ ⟨z1, rfl⟩
          go_wp2
          refine wp_region_wide z1 (by kernel_rfl) (by kernel_rfl) ?_
          repeat (go_big_quiet_step (first
            | (go_at_call 45; refine (HDC.out _ _ _ ((R0.out _).row (Nat.le_trans M0.out.len (by omega))) ((R1.out _).row (Nat.le_trans M1.out.len (by omega))) (RS.out _)).mono ?_; rintro e w99 ⟨rfl, hb9⟩; exact ⟨rfl, ⟨⟨w99, (LaterW.h _).trans (hb9.mono (LaterW.h _).size)⟩, rfl⟩⟩)))
          refine wpQuiet_nil ?_
          rintro _ ⟨z2, rfl⟩
          go_wp2
          refine wp_region_wide z2 (by kernel_rfl) (by kernel_rfl) ?_
          repeat (go_big_quiet_step (first
            | (go_at_call 45; refine (HRC.out _ _ _ ((R0.out _).row (Nat.le_trans M0.out.len (by omega))) ((R1.out _).row (Nat.le_trans M1.out.len (by omega))) (RS.out _)).mono ?_; rintro e w99 ⟨rfl, hb9⟩; exact ⟨rfl, ⟨⟨w99, (LaterW.h _).trans (hb9.mono (LaterW.h _).size)⟩, rfl⟩⟩)))
          refine wpQuiet_nil ?_
          rintro _ ⟨z3, rfl⟩
          go_wp2_with ((clear TK3; go_at_call 100; refine (L1.out _ (RS.out _)).mono ?_; rintro e w9 ⟨rfl, hb9⟩; obtain ⟨zz0, rfl⟩ := LaterW.step z3 hb9; clear hb9))
          go_wp2_with ((clear TK4; go_at_call 100; refine (L2.out _ (RS.out _)).mono ?_; rintro e w9 ⟨rfl, hb9⟩; obtain ⟨zz1, rfl⟩ := LaterW.step zz0 hb9; clear hb9))
          go_wp2
          go_ret
          exact ⟨rfl, (N2.out.later zz1.h).below⟩
end Go.Proofs.YtigapglmipmbeaaGreatDoor
