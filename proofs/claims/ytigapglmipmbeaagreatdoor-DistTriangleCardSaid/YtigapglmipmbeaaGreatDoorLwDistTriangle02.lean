/- law 08: number, least, plus, times. Walks of laws behind made: one class of later worlds for all that follows. The plain law of DistTriangle: distances as texts. No program in sight. DistTriangle, as a walk (printed by mkdlaw2.py). -/
import Derived.Test.YtigapglmipmbeaaGreatDoorRb15
import Derived.Test.YtigapglmipmbeaaGreatDoorRb16
import Derived.Test.YtigapglmipmbeaaGreatDoorRb11
import Derived.Test.YtigapglmipmbeaaGreatDoorLwDistTriangle01
import Derived.Test.YtigapglmipmbeaaGreatDoorRb12
import Derived.Test.YtigapglmipmbeaaGreatDoorRb13
import Derived.Test.YtigapglmipmbeaaGreatDoorRb17
namespace Go.Proofs.YtigapglmipmbeaaGreatDoor
open Go.RowKit Go.Shelf
open Lim
def numberB (f : ByteArray) : Bool := decide (f.size ≤ 24) && ((errQ f.data.toList == 0) && decide (0 ≤ valQ f.data.toList))
set_option maxRecDepth 100000 in
theorem refSign_errB (a : ByteArray) (w : World) (ha : a.size ≤ 9223372036854775807) (he : errQ a.data.toList ≠ 0) :
    Calls Tryz.prog 110 #[.string a] w fun e w' => e = .returned (.tuple #[.int .i64 0, .int .i64 (errQ a.data.toList : Int)]) ∧ Below w.heap.size w w' := by
  have HP := Lib.hid (rq_anyB a w ha)
  have hne : ((errQ a.data.toList : Int) == 0) = false := by rw [beq_eq_false_iff_ne]; omega
  have HE := Lib.hid he
  clear he
  go_enter Tryz.func110, Tryz.ntmps110
  go_wp2_with ((go_at_call 155; refine HP.out.mono ?_; rintro e w1 ⟨v, rfl, -, hz, hb⟩; obtain rfl := hz HE.out; have HB := Lib.hid hb; clear hb hz))
  all_goals first
    | (refine bodyPost_ret (results_tmp2 rfl _ _ _) rfl ?_; exact ⟨rfl, below_alloc HB.out _⟩)
    | (exfalso; have := HE.out; omega)
    | (exfalso; simp_all)
set_option maxRecDepth 100000 in
set_option maxHeartbeats 4000000 in
theorem dnumber_walk (f : ByteArray) (c k : Int) (b : Bool) (w : World) (HC : Hid (Calls Tryz.prog 110 #[.string f] w fun e w' => e = .returned (.tuple #[.int .i64 c, .int .i64 k]) ∧ Below w.heap.size w w'))
    (hb : b = (decide (f.size ≤ 24) && ((k == 0) && decide (0 ≤ c)))) :
    Calls Tryz.prog 98 #[.string f] w fun e w' => e = .returned (.bool b) ∧ Below w.heap.size w w' := by
  by_cases h1 : f.size ≤ 24
  · have d1 : decide ((f.size : Int) ≤ 24) = true := decide_eq_true (by omega)
    rw [decide_eq_true h1, Bool.true_and] at hb
    clear h1
    by_cases h2 : (k == 0) = true
    · rw [h2, Bool.true_and] at hb
      subst hb
      go_enter Tryz.func98, Tryz.ntmps98
      go_wp2_with (go_at_call 110; refine HC.out.mono ?_; rintro e w1 ⟨rfl, hb⟩; have HB := Lib.hid hb; clear hb)
      go_ret
      exact ⟨rfl, HB.out⟩
    · have h2 : (k == 0) = false := by simpa using h2
      rw [h2, Bool.false_and] at hb
      subst hb
      go_enter Tryz.func98, Tryz.ntmps98
      go_wp2_with (go_at_call 110; refine HC.out.mono ?_; rintro e w1 ⟨rfl, hb⟩; have HB := Lib.hid hb; clear hb)
      go_ret
      exact ⟨rfl, HB.out⟩
  · have d1 : decide ((f.size : Int) ≤ 24) = false := decide_eq_false (by omega)
    rw [decide_eq_false h1, Bool.false_and] at hb
    clear h1
    subst hb
    go_enter Tryz.func98, Tryz.ntmps98
    go_wp2_with (go_at_call 110; refine HC.out.mono ?_; rintro e w1 ⟨rfl, hb⟩; have HB := Lib.hid hb; clear hb)
    go_ret
    exact ⟨rfl, HB.out⟩
theorem dnumber_any (f : ByteArray) (w : World) (hf : f.size ≤ 9223372036854775807) (hr : Res w) :
    Calls Tryz.prog 98 #[.string f] w fun e w' => e = .returned (.bool (numberB f)) ∧ Below w.heap.size w w' := by
  by_cases he : errQ f.data.toList = 0
  · refine dnumber_walk f (sgQ (valQ f.data.toList)) 0 _ w (Lib.hid (retRSign_ok (IsT.of he).size he w hr)) ?_
    unfold numberB
    rw [he]
    have : decide (0 ≤ sgQ (valQ f.data.toList)) = decide (0 ≤ valQ f.data.toList) := decide_eq_decide.2 (by
      have := sg_lt (valQ f.data.toList)
      constructor
      · intro h; exact Classical.byContradiction fun h2 => by have := this.2 (by grind); omega
      · intro h; exact Classical.byContradiction fun h2 => by have := this.1 (by omega); grind)
    rw [this]
    rfl
  · refine dnumber_walk f 0 (errQ f.data.toList : Int) _ w (Lib.hid (refSign_errB f w hf he)) ?_
    unfold numberB
    have h1 : ((errQ f.data.toList) == 0) = false := beq_eq_false_iff_ne.2 he
    have h2 : ((errQ f.data.toList : Int) == 0) = false := by rw [beq_eq_false_iff_ne]; omega
    rw [h1, h2]
    simp
theorem numberB_ok {f : ByteArray} (h : numberB f = true) : f.size ≤ 24 ∧ errQ f.data.toList = 0 ∧ 0 ≤ valQ f.data.toList := by
  unfold numberB at h
  simp only [Bool.and_eq_true, decide_eq_true_eq, beq_iff_eq] at h
  exact ⟨h.1, h.2.1, h.2.2⟩
set_option maxRecDepth 100000 in
theorem dleast_any {a b : ByteArray} {p q : Rat} (ha : IsT a p) (hb : IsT b q) : Ret 100 #[.string a, .string b] (.bool (decide (cmpQ p q ≤ 0))) := fun w _ => by
  have HC := Lib.hid (rcmpT w ha hb)
  generalize cmpQ p q = x at *
  clear ha hb
  go_enter Tryz.func100, Tryz.ntmps100
  go_wp2_with (go_at_call 119; refine HC.out.mono ?_; rintro e w1 ⟨rfl, hb⟩; have HB := Lib.hid hb; clear hb)
  go_ret
  exact ⟨rfl, HB.out⟩
theorem dleast_T {a b : ByteArray} {p q : Rat} (ha : IsT a p) (hb : IsT b q) (h : p ≤ q) : Ret 100 #[.string a, .string b] (.bool true) := by
  have := dleast_any ha hb
  rwa [decide_eq_true ((cmpQ_le p q).2 h)] at this
set_option maxRecDepth 100000 in
theorem dplus_T {a b : ByteArray} {p q : Rat} (ha : IsT a p) (hb : IsT b q) (hf : fits (p + q) = true) : Ret 99 #[.string a, .string b] (.string (rT (p + q))) := fun w hr => by
  have HC := retRPlX ha.size hb.size
  rw [plX_val ha.err hb.err, ha.val, hb.val, ovT_fit hf] at HC
  have HC := Lib.hid HC
  change Hid (Ret _ _ (.tuple #[.string _, .int .i64 0])) at HC
  clear ha hb hf
  generalize rT (p + q) = x at *
  go_enter Tryz.func99, Tryz.ntmps99
  go_wp2_with (go_at_call 59; refine (HC.out _ hr).mono ?_; rintro e w1 ⟨rfl, hb⟩; have HB := Lib.hid hb; clear hb)
  go_ret
  exact ⟨rfl, HB.out⟩
set_option maxRecDepth 100000 in
theorem dtimes_T {a b : ByteArray} {p q : Rat} (ha : IsT a p) (hb : IsT b q) (hf : fits (p * q) = true) : Ret 101 #[.string a, .string b] (.string (rT (p * q))) := fun w hr => by
  have HC := retRMulX ha.size hb.size
  rw [mulX_val ha.err hb.err, ha.val, hb.val, ovT_fit hf] at HC
  have HC := Lib.hid HC
  change Hid (Ret _ _ (.tuple #[.string _, .int .i64 0])) at HC
  clear ha hb hf
  generalize rT (p * q) = x at *
  go_enter Tryz.func101, Tryz.ntmps101
  go_wp2_with (go_at_call 149; refine (HC.out _ hr).mono ?_; rintro e w1 ⟨rfl, hb⟩; have HB := Lib.hid hb; clear hb)
  go_ret
  exact ⟨rfl, HB.out⟩
end Go.Proofs.YtigapglmipmbeaaGreatDoor
namespace Go.Proofs.YtigapglmipmbeaaGreatDoor
open Go.RowKit Go.Shelf
open Lim
section
variable {P : Program} {id : Nat} {Q : Exit → Act → World → Prop} {a : Act} {w0 : World} {l : List Oper}
theorem wp_region_wide (x : LaterW w0) (hm : P.follows .mixedOrders = true) (hB : Region.lexB .any l.toArray = true)
    (h : wpQuiet P l.toArray (fun W => ∃ x : LaterW w0, W = x.W) (fun a' => ∀ W, (∃ x : LaterW w0, W = x.W) → Q .normal a' W) l a) : (Code.region id l.toArray true).wp P Q a x.W :=
  wp_region_quiet (C := fun W => ∃ x : LaterW w0, W = x.W) hm hB ⟨⟨{ x.W with drawn := x.W.drawn + 1 }, x.h.trans ⟨rfl, rfl, rfl, Nat.le_refl _, fun _ _ => rfl⟩⟩, rfl⟩ (by simpa using h)
end
theorem LaterW.step {w0 : World} (z : LaterW w0) {W : World} (hb : Below z.W.heap.size z.W W) : ∃ x : LaterW w0, W = x.W := ⟨⟨W, z.h.trans (hb.mono z.h.size)⟩, rfl⟩
theorem LLRow.nth {w : World} {bb j : Nat} {outs : List (List L2)} {l : List L2} (hbb : bb < w.heap.size) (h : ∀ (j : Nat) (ls : List L2), outs[j]? = some ls → ∃ u, w.cell? ⟨bb, j, none⟩ = some u ∧ LRowW w u ls) (hj : outs[j]? = some l) :
    ∃ A c, (∀ z : LaterW w, z.W.cell? ⟨bb, j, none⟩ = some (.slice A l.length c)) ∧ ∀ z : LaterW w, LRowW z.W (.slice A l.length c) l := by
  obtain ⟨u, h1, h2⟩ := h j l hj
  obtain ⟨A, c, rfl, _, _⟩ := id h2
  exact ⟨A, c, fun z => (z.h.cell (p := ⟨bb, j, none⟩) hbb).trans h1, fun z => h2.below z.h⟩
theorem LRowW.wide2 {w : World} {A : Option Addr} {n c k : Nat} {x : L2} {ls : List L2} (h : LRowW w (.slice A n c) ls) (hx : ls[k]? = some x) :
    ∃ b o, A = some ⟨b, o, none⟩ ∧ (∀ z : LaterW w, z.W.cell? ⟨b, o + k * 2, none⟩ = some (.string x.1)) ∧ (∀ z : LaterW w, z.W.cell? ⟨b, o + k * 2 + 1, none⟩ = some (.string x.2)) ∧ ∀ z : LaterW w, b < z.W.heap.size := by
  obtain ⟨b, o, c', e, hb, c0, c1⟩ := h.at (Below.refl _ _) hx
  simp only [Value.slice.injEq] at e
  exact ⟨b, o, e.1, LaterW.at hb c0, LaterW.at hb c1, fun z => Nat.lt_of_lt_of_le hb z.h.size⟩
structure Made8 (l : List L2) : Prop where
  len : l.length ≤ 16
  key : ∀ x ∈ l, x.1.size ≤ 12
  txt : ∀ x ∈ l, x.2.size ≤ 24
  dst : Dst 385 l
theorem Made8.short {l : List L2} (h : Made8 l) : Short l := fun x hx => ⟨Nat.le_trans (h.key x hx) (by omega), Nat.le_trans (h.txt x hx) (by omega)⟩
theorem Made8.of {lss outs : List (List L2)} (h : madeD 16 12 24 lss = some outs) : outs.length = lss.length ∧ ∀ d ∈ outs, Made8 d := by
  obtain ⟨h1, h2⟩ := madeD_spec h
  refine ⟨h1, fun d hd => ?_⟩
  obtain ⟨h3, h4⟩ := h2 d hd
  obtain ⟨l1, l2⟩ := lightD_iff.1 h3
  exact ⟨l1, fun x hx => (l2 x hx).1, fun x hx => (l2 x hx).2, h4⟩
end Go.Proofs.YtigapglmipmbeaaGreatDoor
namespace Go.Proofs.YtigapglmipmbeaaGreatDoor
open Lim
theorem mass_mem {ls : List L2} {a : Nat} (h : Dst a ls) {x : L2} (hx : x ∈ ls) : massD (valsD ls) x.1 = valX x := massD_at (l := valsD ls) (by rw [keys_vals]; exact h.once) (vals_mem hx)
theorem text_eq {s t : ByteArray} (hs : errQ s.data.toList = 0) (ht : errQ t.data.toList = 0) (h : valQ s.data.toList = valQ t.data.toList) : s = t := by rw [ok_rT hs, ok_rT ht, h]
theorem dst_sub {l m : List L2} {a b : Nat} (hl : Dst a l) (hm : Dst b m) (h : ∀ k, massD (valsD l) k = massD (valsD m) k) {x : L2} (hx : x ∈ l) : x ∈ m := by
  have h1 := mass_mem hl hx
  have h2 : 0 < massD (valsD m) x.1 := by rw [← h, h1]; exact hl.pos hx
  have h3 := (hm.isD.pos_iff _).1 h2
  rw [keys_vals] at h3
  obtain ⟨y, hy, e⟩ := List.mem_map.1 h3
  have h4 := mass_mem hm hy
  rw [e, ← h, h1] at h4
  have h5 : x.2 = y.2 := text_eq (hl.okV x hx) (hm.okV y hy) h4
  have h6 : x = y := Prod.ext e.symm h5
  rw [h6]; exact hy
theorem dst_eq {l m : List L2} {a b : Nat} (hl : Dst a l) (hm : Dst b m) (h : ∀ k, massD (valsD l) k = massD (valsD m) k) : l = m := by
  have n1 : l.Nodup := List.Pairwise.of_map (·.1) (fun _ _ h e => h (congrArg _ e)) hl.once
  have n2 : m.Nodup := List.Pairwise.of_map (·.1) (fun _ _ h e => h (congrArg _ e)) hm.once
  have hp : l.Perm m := (List.perm_ext_iff_of_nodup n1 n2).2 fun x => ⟨fun hx => dst_sub hl hm h hx, fun hx => dst_sub hm hl (fun k => (h k).symm) hx⟩
  refine hp.eq_of_pairwise (le := fun x y => ltK x.1 y.1 = true) (fun x y _ _ h1 h2 => ?_) ?_ ?_
  · have := ltK_asymm h1
    rw [h2] at this
    cases this
  · have := hl.asc
    unfold Asc at this
    rwa [List.pairwise_map] at this
  · have := hm.asc
    unfold Asc at this
    rwa [List.pairwise_map] at this
theorem delta_sz {p q : List L2} {f : Rat} {a b j : Nat} (hp : Dst a p) (hq : Dst b q) (h0 : 0 ≤ f) (sf : Sz j f) : Sz (a + (j + b)) (deltaD (valsD p) (valsD q) f) := by
  obtain ⟨D, d1, d2, d3⟩ := hp.den
  obtain ⟨E, e1, e2, e3⟩ := hq.den
  have hD : 0 < D * (f.den * E) := Nat.mul_pos d1 (Nat.mul_pos f.den_pos e1)
  have hlt : D * (f.den * E) < 10 ^ (a + (j + b)) := mul_lt_pow d2 (mul_lt_pow sf.2 e2)
  have ht := delta_top hp.isD hq.isD h0
  have hn := delta_nonneg (valsD p) (valsD q) f
  rw [deltaD_vals hq.once] at ht hn ⊢
  exact (HasDen.sum fun m hm => HasDen.pos (((d3 m hm).mul_right _).sub (((HasDen.self f).mul (atT_has e3)).mul_left _))).sz hD hn (M := 1) ht (by omega) Nat.one_pos
def distT (l m : List L2) : ByteArray := rT (deltaD (valsD l) (valsD m) 1)
section
variable {l m n : List L2} (hl : Dst 385 l) (hm : Dst 385 m) (hn : Dst 385 n)
include hl hm
theorem dist_fit : deltaX l m oT = .ok (distT l m) ∧ IsT (distT l m) (deltaD (valsD l) (valsD m) 1) := by
  have h := deltaX_fit (j := 1) hl hm err_oT (by rw [val_oT]; decide) (by rw [val_oT]; exact Sz.one) (by decide) (by decide)
  rw [val_oT] at h
  exact ⟨h.1, isT_rT h.2⟩
theorem dist_symm : distT l m = distT m l := by unfold distT; rw [delta_symm hl.isD hm.isD]
theorem dist_top : deltaD (valsD l) (valsD m) 1 ≤ 1 := delta_top hl.isD hm.isD (by decide)
theorem dist_zero : decide (distT l m = zT) = sameX l m := by
  refine decide_eq_decide.2 ?_
  have hT := (dist_fit hl hm).2
  rw [zero_text hT.err, hT.val]
  constructor
  · intro h; exact dst_eq hl hm (delta_same hl.isD hm.isD h)
  · intro h
    subst h
    exact delta_zero.2 fun e he => by
      obtain ⟨x, hx, rfl⟩ := List.mem_map.1 he
      have := mass_mem hl hx
      show valX x ≤ 1 * massD (valsD l) x.1
      rw [this, Rat.one_mul]
      exact Rat.le_refl
include hn
theorem dist_sum : fits (deltaD (valsD l) (valsD m) 1 + deltaD (valsD m) (valsD n) 1) = true := by
  have h1 := delta_sz hl hm (f := 1) (by decide) Sz.one
  have h2 := delta_sz hm hn (f := 1) (by decide) Sz.one
  exact fits_sz.2 ((h1.add h2).mono (by decide))
theorem dist_tri : deltaD (valsD l) (valsD n) 1 ≤ deltaD (valsD l) (valsD m) 1 + deltaD (valsD m) (valsD n) 1 := delta_triangle hl.isD hm.isD hn.isD
end
end Go.Proofs.YtigapglmipmbeaaGreatDoor
namespace Go.Proofs.YtigapglmipmbeaaGreatDoor
open Go.RowKit Go.Shelf
open Lim
attribute [local go_sem] Oper.semAt_some
set_option maxRecDepth 100000 in
set_option maxHeartbeats 16000000 in
theorem distTriangle_any (a b c : List L2) (va vb vc : Value) (w : World) (ha : LRowW w va a) (hb : LRowW w vb b) (hc : LRowW w vc c) (hr : Res w) :
    Calls Tryz.prog 15 #[va, vb, vc] w fun e w' => e = .returned (.bool true) ∧ Below w.heap.size w w' := by
  have N0 := Lib.hid (NW.refl hr)
  have HLV := Lib.hid (fun (w : World) hr => dlives_any w hr)
  have HMD := Lib.hid (fun (W : World) (hW : NW w W) => made8_any [a, b, c] (.slice (some ⟨W.heap.size, 0, none⟩) 3 3) (W.alloc (.cells #[va, vb, vc] 22))
    (LLRow.ofBlk (vs := [(va, a), (vb, b), (vc, c)]) (Blk.new W 22 #[va, vb, vc]) rfl (by simp) (fun x hx => by
      have hbw := below_alloc hW.below (.cells #[va, vb, vc] 22)
      simp only [List.mem_cons, List.not_mem_nil, or_false] at hx
      rcases hx with rfl | rfl | rfl
      · exact ha.below hbw
      · exact hb.below hbw
      · exact hc.below hbw
    )) (by simp) (hW.alloc _).res rdmake_any)
  obtain ⟨A0, c0, rfl, _, _⟩ := id ha
  obtain ⟨A1, c1, rfl, _, _⟩ := id hb
  obtain ⟨A2, c2, rfl, _, _⟩ := id hc
  clear ha hb hc hr
  have TK0 : True := trivial
  have TK1 : True := trivial
  cases hm : madeD 16 12 24 [a, b, c] with
  | none =>
    rw [hm] at HMD
    change Hid (∀ W (_ : NW w W), Calls _ _ _ _ fun e w' => e = .returned (.tuple #[.slice none 0 0, .bool false]) ∧ _) at HMD
    clear hm
    go_enter Tryz.func15, Tryz.ntmps15
    go_wp2_with ((clear TK0; go_at_call 21; refine (HLV.out _ N0.out.res).mono ?_; rintro e w1 ⟨rfl, hb⟩; have N1 := Lib.hid (N0.out.later hb); clear hb))
    go_wp2_with ((clear TK1; go_at_call 97; refine (HMD.out _ N1.out).mono ?_; rintro e w2 ⟨rfl, hb⟩; have N2 := Lib.hid ((N1.out.alloc _).later hb); clear hb))
    go_wp2
    go_ret
    exact ⟨rfl, N2.out.below⟩
  | some outs =>
    obtain ⟨hol, hod⟩ := Made8.of hm
    obtain ⟨l0, l1, l2, rfl⟩ : ∃ l0 l1 l2, outs = [l0, l1, l2] := by
      match outs, hol with
      | [x0, x1, x2], _ => exact ⟨x0, x1, x2, rfl⟩
    rw [hm] at HMD
    change Hid (∀ W (_ : NW w W), Calls _ _ _ _ fun e w' => (∃ u, e = .returned (.tuple #[u, .bool true]) ∧ LLRow w' u [l0, l1, l2]) ∧ _) at HMD
    have M0 := hod l0 (by simp)
    have M1 := hod l1 (by simp)
    have M2 := hod l2 (by simp)
    clear hm hol hod
    have D01 := dist_fit M0.dst M1.dst
    have D12 := dist_fit M1.dst M2.dst
    have D02 := dist_fit M0.dst M2.dst
    have D10 := dist_fit M1.dst M0.dst
    rw [dist_symm M1.dst M0.dst] at D10
    have HC01 := Lib.hid (fun u v W (hu : LRow W u l0) (hv : LRow W v l1) (hr : Res W) => ddistance_any l0 l1 u v W hu hv M0.short M1.short hr)
    have HC12 := Lib.hid (fun u v W (hu : LRow W u l1) (hv : LRow W v l2) (hr : Res W) => ddistance_any l1 l2 u v W hu hv M1.short M2.short hr)
    have HC02 := Lib.hid (fun u v W (hu : LRow W u l0) (hv : LRow W v l2) (hr : Res W) => ddistance_any l0 l2 u v W hu hv M0.short M2.short hr)
    have HC10 := Lib.hid (fun u v W (hu : LRow W u l1) (hv : LRow W v l0) (hr : Res W) => ddistance_any l1 l0 u v W hu hv M1.short M0.short hr)
    have HSM := Lib.hid (fun u v W (hu : LRow W u l0) (hv : LRow W v l1) (hr : Res W) => rdsame_any l0 l1 u v W hu hv hr)
    rw [D01.1] at HC01
    rw [D12.1] at HC12
    rw [D02.1] at HC02
    rw [D10.1] at HC10
    have L1 := Lib.hid (dleast_T D01.2 IsT.one (dist_top M0.dst M1.dst))
    have HF := dist_sum M0.dst M1.dst M2.dst
    have PL := Lib.hid (dplus_T D01.2 D12.2 HF)
    have L2 := Lib.hid (dleast_T D02.2 (isT_rT HF) (dist_tri M0.dst M1.dst M2.dst))
    have TE := eq_bytes (distT l0 l1) zT
    rw [zT_list, dist_zero M0.dst M1.dst] at TE
    generalize rT (deltaD (valsD l0) (valsD l1) 1 + deltaD (valsD l1) (valsD l2) 1) = sm at *
    generalize distT l0 l1 = x at *
    generalize distT l1 l2 = y at *
    generalize distT l0 l2 = zz at *
    generalize sameX l0 l1 = sb at *
    change Hid (∀ u v W (_ : LRow W u l0) (_ : LRow W v l1) (_ : Res W), Calls _ _ _ _ fun e w' => e = .returned (.tuple #[.string x, .int .i64 0]) ∧ _) at HC01
    change Hid (∀ u v W (_ : LRow W u l1) (_ : LRow W v l2) (_ : Res W), Calls _ _ _ _ fun e w' => e = .returned (.tuple #[.string y, .int .i64 0]) ∧ _) at HC12
    change Hid (∀ u v W (_ : LRow W u l0) (_ : LRow W v l2) (_ : Res W), Calls _ _ _ _ fun e w' => e = .returned (.tuple #[.string zz, .int .i64 0]) ∧ _) at HC02
    change Hid (∀ u v W (_ : LRow W u l1) (_ : LRow W v l0) (_ : Res W), Calls _ _ _ _ fun e w' => e = .returned (.tuple #[.string x, .int .i64 0]) ∧ _) at HC10
    have LL := Lib.hid (show ∀ s t, (s = x ∧ t = oT) ∨ (s = zz ∧ t = sm) → Ret 100 #[.string s, .string t] (.bool true) from fun s t h => by
      rcases h with ⟨rfl, rfl⟩ | ⟨rfl, rfl⟩
      · exact L1.out
      · exact L2.out)
    clear D01 D12 D02 D10 HF L1 L2
    have M0 := Lib.hid M0
    have M1 := Lib.hid M1
    have M2 := Lib.hid M2
    go_enter Tryz.func15, Tryz.ntmps15
    go_wp2_with ((clear TK0; go_at_call 21; refine (HLV.out _ N0.out.res).mono ?_; rintro e w1 ⟨rfl, hb⟩; have N1 := Lib.hid (N0.out.later hb); clear hb))
    go_wp2_with ((clear TK1; go_at_call 97; refine (HMD.out _ N1.out).mono ?_; rintro e w2 ⟨⟨u, rfl, hl⟩, hb⟩; obtain ⟨bb, cc, rfl, hbb, _, hcell⟩ := hl; have HCL := Lib.hid (And.intro hbb hcell); have N2 := Lib.hid ((N1.out.alloc _).later hb); clear hb hbb hcell))
    obtain ⟨B0, k0, y0, rr⟩ := LLRow.nth (j := 0) (l := l0) HCL.out.1 HCL.out.2 rfl
    have R0 := Lib.hid rr
    clear rr
    obtain ⟨B1, k1, y1, rr⟩ := LLRow.nth (j := 1) (l := l1) HCL.out.1 HCL.out.2 rfl
    have R1 := Lib.hid rr
    clear rr
    obtain ⟨B2, k2, y2, rr⟩ := LLRow.nth (j := 2) (l := l2) HCL.out.1 HCL.out.2 rfl
    have R2 := Lib.hid rr
    clear rr
    have RS := Lib.hid (fun z : LaterW w2 => N2.out.res.below z.h)
    clear HCL
    refine wp_region_wide ⟨w2, Below.refl _ _⟩ (by kernel_rfl) (by kernel_rfl) ?_
    repeat (go_big_quiet_step (first
      | (go_at_call 46; refine (HC01.out _ _ _ ((R0.out _).row (Nat.le_trans M0.out.len (by omega))) ((R1.out _).row (Nat.le_trans M1.out.len (by omega))) (RS.out _)).mono ?_; rintro e w99 ⟨rfl, hb9⟩; exact ⟨rfl, ⟨⟨w99, (LaterW.h _).trans (hb9.mono (LaterW.h _).size)⟩, rfl⟩⟩)))
    refine wpQuiet_nil ?_
    rintro _ ⟨z1, rfl⟩
    go_wp2
    refine wp_region_wide z1 (by kernel_rfl) (by kernel_rfl) ?_
    repeat (go_big_quiet_step (first
      | (go_at_call 46; refine (HC12.out _ _ _ ((R1.out _).row (Nat.le_trans M1.out.len (by omega))) ((R2.out _).row (Nat.le_trans M2.out.len (by omega))) (RS.out _)).mono ?_; rintro e w99 ⟨rfl, hb9⟩; exact ⟨rfl, ⟨⟨w99, (LaterW.h _).trans (hb9.mono (LaterW.h _).size)⟩, rfl⟩⟩)))
    refine wpQuiet_nil ?_
    rintro _ ⟨z2, rfl⟩
    go_wp2
    refine wp_region_wide z2 (by kernel_rfl) (by kernel_rfl) ?_
    repeat (go_big_quiet_step (first
      | (go_at_call 46; refine (HC02.out _ _ _ ((R0.out _).row (Nat.le_trans M0.out.len (by omega))) ((R2.out _).row (Nat.le_trans M2.out.len (by omega))) (RS.out _)).mono ?_; rintro e w99 ⟨rfl, hb9⟩; exact ⟨rfl, ⟨⟨w99, (LaterW.h _).trans (hb9.mono (LaterW.h _).size)⟩, rfl⟩⟩)))
    refine wpQuiet_nil ?_
    rintro _ ⟨z3, rfl⟩
    go_wp2
    refine wp_region_wide z3 (by kernel_rfl) (by kernel_rfl) ?_
    repeat (go_big_quiet_step (first
      | (go_at_call 46; refine (HC10.out _ _ _ ((R1.out _).row (Nat.le_trans M1.out.len (by omega))) ((R0.out _).row (Nat.le_trans M0.out.len (by omega))) (RS.out _)).mono ?_; rintro e w99 ⟨rfl, hb9⟩; exact ⟨rfl, ⟨⟨w99, (LaterW.h _).trans (hb9.mono (LaterW.h _).size)⟩, rfl⟩⟩)))
    refine wpQuiet_nil ?_
    rintro _ ⟨z4, rfl⟩
    go_wp2
    cases sb
    all_goals
      refine wp_region_wide z4 (by kernel_rfl) (by kernel_rfl) ?_
      repeat (go_big_quiet_step (first
        | (go_at_call 100; refine (LL.out _ _ (by first | exact .inl ⟨rfl, rfl⟩ | exact .inr ⟨rfl, rfl⟩) _ (RS.out _)).mono ?_; rintro e w99 ⟨rfl, hb9⟩; exact ⟨rfl, ⟨⟨w99, (LaterW.h _).trans (hb9.mono (LaterW.h _).size)⟩, rfl⟩⟩)
        | (go_at_call 99; refine (PL.out _ (RS.out _)).mono ?_; rintro e w99 ⟨rfl, hb9⟩; exact ⟨rfl, ⟨⟨w99, (LaterW.h _).trans (hb9.mono (LaterW.h _).size)⟩, rfl⟩⟩)
        | (go_at_call 34; refine (HSM.out _ _ _ ((R0.out _).row (Nat.le_trans M0.out.len (by omega))) ((R1.out _).row (Nat.le_trans M1.out.len (by omega))) (RS.out _)).mono ?_; rintro e w99 ⟨rfl, hb9⟩; exact ⟨rfl, ⟨⟨w99, (LaterW.h _).trans (hb9.mono (LaterW.h _).size)⟩, rfl⟩⟩)))
      refine wpQuiet_nil ?_
      rintro _ ⟨z5, rfl⟩
      go_wp2
      go_ret
      exact ⟨rfl, (N2.out.later z5.h).below⟩
end Go.Proofs.YtigapglmipmbeaaGreatDoor
