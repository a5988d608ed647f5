/- A region that draws its order and only reads and calls what lays blocks of its own: one walk. What the calls of LossOrder come to, in plain losses. LossOrder: the walk (printed by mklorder.py). -/
import Derived.Test.YtbfhonhjejeaiaaGreatDoorRb01
import Derived.BigQuiet
import Derived.Below
import Derived.Test.YtbfhonhjejeaiaaGreatDoorRb15
import Derived.Test.YtbfhonhjejeaiaaGreatDoorRb03
namespace Go.Proofs.YtbfhonhjejeaiaaGreatDoor
open Go.RowKit

/-- A later world: what lay before lies as it did. -/
structure LaterW (w : World) where
  W : World
  h : Below w.heap.size w W
instance (w : World) : Nonempty (LaterW w) := ⟨⟨w, Below.refl _ _⟩⟩
theorem wp_region_later {P : Program} {id : Nat} {Q : Exit → Act → World → Prop} {a : Act} {w : World} {l : List Oper} (hm : P.follows .mixedOrders = true) (hB : Region.lexB .any l.toArray = true)
    (h : wpQuiet P l.toArray (fun W => ∃ x : LaterW w, W = x.W) (fun a' => ∀ W, (∃ x : LaterW w, W = x.W) → Q .normal a' W) l a) : (Code.region id l.toArray true).wp P Q a w :=
  wp_region_quiet (C := fun W => ∃ x : LaterW w, W = x.W) hm hB ⟨⟨{ w with drawn := w.drawn + 1 }, ⟨rfl, rfl, rfl, Nat.le_refl _, fun _ _ => rfl⟩⟩, rfl⟩ (by simpa using h)
end Go.Proofs.YtbfhonhjejeaiaaGreatDoor
namespace Go.Proofs.YtbfhonhjejeaiaaGreatDoor
open Go.RowKit Go.Shelf
open Lim

theorem addV {f d f' d' : ByteArray} {a b : LQ} {j k : Nat} (ha : LossIs f d a) (hb : LossIs f' d' b) (sa : SzL j a) (sb : SzL k b) (h : j + k + 1 ≤ maxD) (w : World) (hr : Res w) :
    Calls Tryz.prog 15 #[.agg #[.string f, .string d], .agg #[.string f', .string d']] w fun e w' => e = .returned (.tuple #[.agg #[.string (rT (sumL a b).1), .string (rT (sumL a b).2)], .int .i64 0]) ∧ Below w.heap.size w w' := by
  have := lossAdd_any f d f' d' w ha.f.size ha.d.size hb.f.size hb.d.size hr
  rw [foldR_two (fun a ha => plusL_none ha) (firstL_is ha hb), valL_is ha, valL_is hb, plusL_sum sa sb h] at this
  exact this
theorem maxV {f d f' d' : ByteArray} {a b : LQ} (ha : LossIs f d a) (hb : LossIs f' d' b) (w : World) (hr : Res w) :
    Calls Tryz.prog 17 #[.agg #[.string f, .string d], .agg #[.string f', .string d']] w fun e w' => e = .returned (.tuple #[.agg #[.string (rT (aboveL a b).1), .string (rT (aboveL a b).2)], .int .i64 0]) ∧ Below w.heap.size w w' := by
  have := lossMax_any f d f' d' w ha.f.size ha.d.size hb.f.size hb.d.size hr
  rw [foldR_two (fun a ha => by rw [aboveL_none ha]) (firstL_is ha hb), valL_is ha, valL_is hb] at this
  exact this
theorem fitsV {f d f' d' : ByteArray} {a b : LQ} (ha : LossIs f d a) (hb : LossIs f' d' b) (w : World) (hr : Res w) :
    Calls Tryz.prog 19 #[.agg #[.string f, .string d], .agg #[.string f', .string d']] w fun e w' => e = .returned (.tuple #[.bool (fitsL a b), .int .i64 0]) ∧ Below w.heap.size w w' := by
  have := lossFits_any f d f' d' w ha.f.size ha.d.size hb.f.size hb.d.size hr
  unfold fitsR at this
  rw [if_neg (by rw [firstL_is ha hb]; decide), valL_is ha, valL_is hb] at this
  exact this
theorem LRow.three {w : World} {b : Nat} {t : TypeId} {f d f' d' f'' d'' : ByteArray} (h : Blk w b t #[.string f, .string d, .string f', .string d', .string f'', .string d'']) : LRow w (.slice (some ⟨b, 0, none⟩) 3 3) [(f, d), (f', d'), (f'', d'')] := by
  refine ⟨_, _, rfl, by simp, fun _ => ⟨b, 0, rfl, h.lt, fun j x hj => ?_⟩⟩
  match j with
  | 0 => cases hj; exact ⟨(cellrow h 0 (by simp)).1, (cellrow h 1 (by simp)).1⟩
  | 1 => cases hj; exact ⟨(cellrow h 2 (by simp)).1, (cellrow h 3 (by simp)).1⟩
  | 2 => cases hj; exact ⟨(cellrow h 4 (by simp)).1, (cellrow h 5 (by simp)).1⟩
  | j + 3 => simp at hj
theorem Held.three {w : World} {a b c d e f : ByteArray} (hr : Res w) : Held (((w.alloc (.cells #[.string a, .string b] 24)).alloc (.cells #[.string c, .string d] 24)).alloc (.cells #[.string e, .string f] 24)) [(w.heap.size, a, b), (w.heap.size + 1, c, d), (w.heap.size + 1 + 1, e, f)] := by
  have H0 := At3.new w 24 24 24 #[.string a, .string b] #[.string c, .string d] #[.string e, .string f] hr
  intro x hx
  simp only [List.mem_cons, List.not_mem_nil, or_false] at hx
  rcases hx with rfl | rfl | rfl
  · exact H0.a
  · exact H0.b
  · exact H0.c
end Go.Proofs.YtbfhonhjejeaiaaGreatDoor
namespace Go.Proofs.YtbfhonhjejeaiaaGreatDoor
open Go.RowKit Go.Shelf
open Lim

set_option maxRecDepth 100000 in
set_option maxHeartbeats 16000000 in
theorem order_heavy (af ad bf bd cf cd : ByteArray) (w : World) (HV : Hid (lightL2 [(af, ad), (bf, bd), (cf, cd)] = false)) (hr : Res w) :
    Calls Tryz.prog 4 #[.agg #[.string af, .string ad], .agg #[.string bf, .string bd], .agg #[.string cf, .string cd]] w fun e w' => e = .returned (.bool true) ∧ Below w.heap.size w w' := by
  have D0 := Lib.hid (Held.three (a := af) (b := ad) (c := bf) (d := bd) (e := cf) (f := cd) hr)
  have B0 := Lib.hid (below_alloc (below_alloc (below_alloc (Below.refl w.heap.size w) (.cells #[.string af, .string ad] 24)) (.cells #[.string bf, .string bd] 24)) (.cells #[.string cf, .string cd] 24))
  have R0 := Lib.hid (Res.below hr B0.out)
  clear hr
  have TK1 : True := trivial
  go_enter Tryz.func4, Tryz.ntmps4
  go_wp2_with (first
    | (clear TK1; go_at_call 13; refine (llives_any _ R0.out).mono ?_; rintro e w1 ⟨rfl, hb⟩; have D1 := Lib.hid (D0.out.later hb); have B1 := Lib.hid (B0.out.trans (hb.mono B0.out.size)); have R1 := Lib.hid (R0.out.below hb); obtain ⟨c1_0a, c1_0b, c1_0l⟩ := D1.out.at (b := w.heap.size) (x := af) (y := ad) (by simp); obtain ⟨c1_1a, c1_1b, c1_1l⟩ := D1.out.at (b := w.heap.size + 1) (x := bf) (y := bd) (by simp); obtain ⟨c1_2a, c1_2b, c1_2l⟩ := D1.out.at (b := w.heap.size + 1 + 1) (x := cf) (y := cd) (by simp); clear hb)
    | (go_at_call 14; refine (llight_any [(af, ad), (bf, bd), (cf, cd)] _ _ (LRow.three (Blk.new w1 _ _))).mono ?_; rintro e w2 ⟨rfl, hw⟩; rw [HV.out]; have hb : Below w1.heap.size w1 w2 := (by rw [hw]; exact below_alloc (Below.refl _ _) _); have D2 := Lib.hid (D1.out.later hb); have B2 := Lib.hid (B1.out.trans (hb.mono B1.out.size)); have R2 := Lib.hid (R1.out.below hb); clear c1_0a c1_0b c1_0l c1_1a c1_1b c1_1l c1_2a c1_2b c1_2l; obtain ⟨c2_0a, c2_0b, c2_0l⟩ := D2.out.at (b := w.heap.size) (x := af) (y := ad) (by simp); obtain ⟨c2_1a, c2_1b, c2_1l⟩ := D2.out.at (b := w.heap.size + 1) (x := bf) (y := bd) (by simp); obtain ⟨c2_2a, c2_2b, c2_2l⟩ := D2.out.at (b := w.heap.size + 1 + 1) (x := cf) (y := cd) (by simp); clear hb hw))
  go_ret
  exact ⟨rfl, B2.out⟩
set_option maxRecDepth 100000 in
set_option maxHeartbeats 16000000 in
theorem order_ka (af ad bf bd cf cd : ByteArray) (k : Int) (hk : k ≠ 0) (w : World) (HV : Hid (lightL2 [(af, ad), (bf, bd), (cf, cd)] = true)) (CA : Hid (∀ w, Res w → Calls Tryz.prog 26 #[.agg #[.string af, .string ad]] w fun e w' => e = .returned (.int .i64 k) ∧ Below w.heap.size w w')) (hr : Res w) :
    Calls Tryz.prog 4 #[.agg #[.string af, .string ad], .agg #[.string bf, .string bd], .agg #[.string cf, .string cd]] w fun e w' => e = .returned (.bool true) ∧ Below w.heap.size w w' := by
  have D0 := Lib.hid (Held.three (a := af) (b := ad) (c := bf) (d := bd) (e := cf) (f := cd) hr)
  have B0 := Lib.hid (below_alloc (below_alloc (below_alloc (Below.refl w.heap.size w) (.cells #[.string af, .string ad] 24)) (.cells #[.string bf, .string bd] 24)) (.cells #[.string cf, .string cd] 24))
  have R0 := Lib.hid (Res.below hr B0.out)
  clear hr
  have hk1 : (k == 0) = false := beq_eq_false_iff_ne.2 hk
  have hk2 : (k != 0) = true := by rw [bne, hk1]; rfl
  have hk3 : (!(k == 0)) = true := by rw [hk1]; rfl
  have TK1 : True := trivial
  have TK2 : True := trivial
  go_enter Tryz.func4, Tryz.ntmps4
  go_wp2_with (first
    | (clear TK1; go_at_call 13; refine (llives_any _ R0.out).mono ?_; rintro e w1 ⟨rfl, hb⟩; have D1 := Lib.hid (D0.out.later hb); have B1 := Lib.hid (B0.out.trans (hb.mono B0.out.size)); have R1 := Lib.hid (R0.out.below hb); obtain ⟨c1_0a, c1_0b, c1_0l⟩ := D1.out.at (b := w.heap.size) (x := af) (y := ad) (by simp); obtain ⟨c1_1a, c1_1b, c1_1l⟩ := D1.out.at (b := w.heap.size + 1) (x := bf) (y := bd) (by simp); obtain ⟨c1_2a, c1_2b, c1_2l⟩ := D1.out.at (b := w.heap.size + 1 + 1) (x := cf) (y := cd) (by simp); clear hb)
    | (go_at_call 14; refine (llight_any [(af, ad), (bf, bd), (cf, cd)] _ _ (LRow.three (Blk.new w1 _ _))).mono ?_; rintro e w2 ⟨rfl, hw⟩; rw [HV.out]; have hb : Below w1.heap.size w1 w2 := (by rw [hw]; exact below_alloc (Below.refl _ _) _); have D2 := Lib.hid (D1.out.later hb); have B2 := Lib.hid (B1.out.trans (hb.mono B1.out.size)); have R2 := Lib.hid (R1.out.below hb); clear c1_0a c1_0b c1_0l c1_1a c1_1b c1_1l c1_2a c1_2b c1_2l; obtain ⟨c2_0a, c2_0b, c2_0l⟩ := D2.out.at (b := w.heap.size) (x := af) (y := ad) (by simp); obtain ⟨c2_1a, c2_1b, c2_1l⟩ := D2.out.at (b := w.heap.size + 1) (x := bf) (y := bd) (by simp); obtain ⟨c2_2a, c2_2b, c2_2l⟩ := D2.out.at (b := w.heap.size + 1 + 1) (x := cf) (y := cd) (by simp); clear hb hw)
    | (clear TK2; go_at_call 26; refine (CA.out _ R2.out).mono ?_; rintro e w3 ⟨rfl, hb⟩; have D3 := Lib.hid (D2.out.later hb); have B3 := Lib.hid (B2.out.trans (hb.mono B2.out.size)); have R3 := Lib.hid (R2.out.below hb); clear c2_0a c2_0b c2_0l c2_1a c2_1b c2_1l c2_2a c2_2b c2_2l; obtain ⟨c3_0a, c3_0b, c3_0l⟩ := D3.out.at (b := w.heap.size) (x := af) (y := ad) (by simp); obtain ⟨c3_1a, c3_1b, c3_1l⟩ := D3.out.at (b := w.heap.size + 1) (x := bf) (y := bd) (by simp); obtain ⟨c3_2a, c3_2b, c3_2l⟩ := D3.out.at (b := w.heap.size + 1 + 1) (x := cf) (y := cd) (by simp); clear hb))
  go_ret
  exact ⟨rfl, B3.out⟩
set_option maxRecDepth 100000 in
set_option maxHeartbeats 16000000 in
theorem order_kb (af ad bf bd cf cd : ByteArray) (k : Int) (hk : k ≠ 0) (w : World) (HV : Hid (lightL2 [(af, ad), (bf, bd), (cf, cd)] = true)) (CA : Hid (∀ w, Res w → Calls Tryz.prog 26 #[.agg #[.string af, .string ad]] w fun e w' => e = .returned (.int .i64 0) ∧ Below w.heap.size w w')) (CB : Hid (∀ w, Res w → Calls Tryz.prog 26 #[.agg #[.string bf, .string bd]] w fun e w' => e = .returned (.int .i64 k) ∧ Below w.heap.size w w')) (hr : Res w) :
    Calls Tryz.prog 4 #[.agg #[.string af, .string ad], .agg #[.string bf, .string bd], .agg #[.string cf, .string cd]] w fun e w' => e = .returned (.bool true) ∧ Below w.heap.size w w' := by
  have D0 := Lib.hid (Held.three (a := af) (b := ad) (c := bf) (d := bd) (e := cf) (f := cd) hr)
  have B0 := Lib.hid (below_alloc (below_alloc (below_alloc (Below.refl w.heap.size w) (.cells #[.string af, .string ad] 24)) (.cells #[.string bf, .string bd] 24)) (.cells #[.string cf, .string cd] 24))
  have R0 := Lib.hid (Res.below hr B0.out)
  clear hr
  have hk1 : (k == 0) = false := beq_eq_false_iff_ne.2 hk
  have hk2 : (k != 0) = true := by rw [bne, hk1]; rfl
  have hk3 : (!(k == 0)) = true := by rw [hk1]; rfl
  have TK1 : True := trivial
  have TK2 : True := trivial
  have TK3 : True := trivial
  go_enter Tryz.func4, Tryz.ntmps4
  go_wp2_with (first
    | (clear TK1; go_at_call 13; refine (llives_any _ R0.out).mono ?_; rintro e w1 ⟨rfl, hb⟩; have D1 := Lib.hid (D0.out.later hb); have B1 := Lib.hid (B0.out.trans (hb.mono B0.out.size)); have R1 := Lib.hid (R0.out.below hb); obtain ⟨c1_0a, c1_0b, c1_0l⟩ := D1.out.at (b := w.heap.size) (x := af) (y := ad) (by simp); obtain ⟨c1_1a, c1_1b, c1_1l⟩ := D1.out.at (b := w.heap.size + 1) (x := bf) (y := bd) (by simp); obtain ⟨c1_2a, c1_2b, c1_2l⟩ := D1.out.at (b := w.heap.size + 1 + 1) (x := cf) (y := cd) (by simp); clear hb)
    | (go_at_call 14; refine (llight_any [(af, ad), (bf, bd), (cf, cd)] _ _ (LRow.three (Blk.new w1 _ _))).mono ?_; rintro e w2 ⟨rfl, hw⟩; rw [HV.out]; have hb : Below w1.heap.size w1 w2 := (by rw [hw]; exact below_alloc (Below.refl _ _) _); have D2 := Lib.hid (D1.out.later hb); have B2 := Lib.hid (B1.out.trans (hb.mono B1.out.size)); have R2 := Lib.hid (R1.out.below hb); clear c1_0a c1_0b c1_0l c1_1a c1_1b c1_1l c1_2a c1_2b c1_2l; obtain ⟨c2_0a, c2_0b, c2_0l⟩ := D2.out.at (b := w.heap.size) (x := af) (y := ad) (by simp); obtain ⟨c2_1a, c2_1b, c2_1l⟩ := D2.out.at (b := w.heap.size + 1) (x := bf) (y := bd) (by simp); obtain ⟨c2_2a, c2_2b, c2_2l⟩ := D2.out.at (b := w.heap.size + 1 + 1) (x := cf) (y := cd) (by simp); clear hb hw)
    | (clear TK2; go_at_call 26; refine (CA.out _ R2.out).mono ?_; rintro e w3 ⟨rfl, hb⟩; have D3 := Lib.hid (D2.out.later hb); have B3 := Lib.hid (B2.out.trans (hb.mono B2.out.size)); have R3 := Lib.hid (R2.out.below hb); clear c2_0a c2_0b c2_0l c2_1a c2_1b c2_1l c2_2a c2_2b c2_2l; obtain ⟨c3_0a, c3_0b, c3_0l⟩ := D3.out.at (b := w.heap.size) (x := af) (y := ad) (by simp); obtain ⟨c3_1a, c3_1b, c3_1l⟩ := D3.out.at (b := w.heap.size + 1) (x := bf) (y := bd) (by simp); obtain ⟨c3_2a, c3_2b, c3_2l⟩ := D3.out.at (b := w.heap.size + 1 + 1) (x := cf) (y := cd) (by simp); clear hb)
    | (clear TK3; go_at_call 26; refine (CB.out _ R3.out).mono ?_; rintro e w4 ⟨rfl, hb⟩; have D4 := Lib.hid (D3.out.later hb); have B4 := Lib.hid (B3.out.trans (hb.mono B3.out.size)); have R4 := Lib.hid (R3.out.below hb); clear c3_0a c3_0b c3_0l c3_1a c3_1b c3_1l c3_2a c3_2b c3_2l; obtain ⟨c4_0a, c4_0b, c4_0l⟩ := D4.out.at (b := w.heap.size) (x := af) (y := ad) (by simp); obtain ⟨c4_1a, c4_1b, c4_1l⟩ := D4.out.at (b := w.heap.size + 1) (x := bf) (y := bd) (by simp); obtain ⟨c4_2a, c4_2b, c4_2l⟩ := D4.out.at (b := w.heap.size + 1 + 1) (x := cf) (y := cd) (by simp); clear hb))
  go_ret
  exact ⟨rfl, B4.out⟩
set_option maxRecDepth 100000 in
set_option maxHeartbeats 16000000 in
theorem order_kc (af ad bf bd cf cd : ByteArray) (k : Int) (hk : k ≠ 0) (w : World) (HV : Hid (lightL2 [(af, ad), (bf, bd), (cf, cd)] = true)) (CA : Hid (∀ w, Res w → Calls Tryz.prog 26 #[.agg #[.string af, .string ad]] w fun e w' => e = .returned (.int .i64 0) ∧ Below w.heap.size w w')) (CB : Hid (∀ w, Res w → Calls Tryz.prog 26 #[.agg #[.string bf, .string bd]] w fun e w' => e = .returned (.int .i64 0) ∧ Below w.heap.size w w')) (CC : Hid (∀ w, Res w → Calls Tryz.prog 26 #[.agg #[.string cf, .string cd]] w fun e w' => e = .returned (.int .i64 k) ∧ Below w.heap.size w w')) (hr : Res w) :
    Calls Tryz.prog 4 #[.agg #[.string af, .string ad], .agg #[.string bf, .string bd], .agg #[.string cf, .string cd]] w fun e w' => e = .returned (.bool true) ∧ Below w.heap.size w w' := by
  have D0 := Lib.hid (Held.three (a := af) (b := ad) (c := bf) (d := bd) (e := cf) (f := cd) hr)
  have B0 := Lib.hid (below_alloc (below_alloc (below_alloc (Below.refl w.heap.size w) (.cells #[.string af, .string ad] 24)) (.cells #[.string bf, .string bd] 24)) (.cells #[.string cf, .string cd] 24))
  have R0 := Lib.hid (Res.below hr B0.out)
  clear hr
  have hk1 : (k == 0) = false := beq_eq_false_iff_ne.2 hk
  have hk2 : (k != 0) = true := by rw [bne, hk1]; rfl
  have hk3 : (!(k == 0)) = true := by rw [hk1]; rfl
  have TK1 : True := trivial
  have TK2 : True := trivial
  have TK3 : True := trivial
  have TK4 : True := trivial
  go_enter Tryz.func4, Tryz.ntmps4
  go_wp2_with (first
    | (clear TK1; go_at_call 13; refine (llives_any _ R0.out).mono ?_; rintro e w1 ⟨rfl, hb⟩; have D1 := Lib.hid (D0.out.later hb); have B1 := Lib.hid (B0.out.trans (hb.mono B0.out.size)); have R1 := Lib.hid (R0.out.below hb); obtain ⟨c1_0a, c1_0b, c1_0l⟩ := D1.out.at (b := w.heap.size) (x := af) (y := ad) (by simp); obtain ⟨c1_1a, c1_1b, c1_1l⟩ := D1.out.at (b := w.heap.size + 1) (x := bf) (y := bd) (by simp); obtain ⟨c1_2a, c1_2b, c1_2l⟩ := D1.out.at (b := w.heap.size + 1 + 1) (x := cf) (y := cd) (by simp); clear hb)
    | (go_at_call 14; refine (llight_any [(af, ad), (bf, bd), (cf, cd)] _ _ (LRow.three (Blk.new w1 _ _))).mono ?_; rintro e w2 ⟨rfl, hw⟩; rw [HV.out]; have hb : Below w1.heap.size w1 w2 := (by rw [hw]; exact below_alloc (Below.refl _ _) _); have D2 := Lib.hid (D1.out.later hb); have B2 := Lib.hid (B1.out.trans (hb.mono B1.out.size)); have R2 := Lib.hid (R1.out.below hb); clear c1_0a c1_0b c1_0l c1_1a c1_1b c1_1l c1_2a c1_2b c1_2l; obtain ⟨c2_0a, c2_0b, c2_0l⟩ := D2.out.at (b := w.heap.size) (x := af) (y := ad) (by simp); obtain ⟨c2_1a, c2_1b, c2_1l⟩ := D2.out.at (b := w.heap.size + 1) (x := bf) (y := bd) (by simp); obtain ⟨c2_2a, c2_2b, c2_2l⟩ := D2.out.at (b := w.heap.size + 1 + 1) (x := cf) (y := cd) (by simp); clear hb hw)
    | (clear TK2; go_at_call 26; refine (CA.out _ R2.out).mono ?_; rintro e w3 ⟨rfl, hb⟩; have D3 := Lib.hid (D2.out.later hb); have B3 := Lib.hid (B2.out.trans (hb.mono B2.out.size)); have R3 := Lib.hid (R2.out.below hb); clear c2_0a c2_0b c2_0l c2_1a c2_1b c2_1l c2_2a c2_2b c2_2l; obtain ⟨c3_0a, c3_0b, c3_0l⟩ := D3.out.at (b := w.heap.size) (x := af) (y := ad) (by simp); obtain ⟨c3_1a, c3_1b, c3_1l⟩ := D3.out.at (b := w.heap.size + 1) (x := bf) (y := bd) (by simp); obtain ⟨c3_2a, c3_2b, c3_2l⟩ := D3.out.at (b := w.heap.size + 1 + 1) (x := cf) (y := cd) (by simp); clear hb)
    | (clear TK3; go_at_call 26; refine (CB.out _ R3.out).mono ?_; rintro e w4 ⟨rfl, hb⟩; have D4 := Lib.hid (D3.out.later hb); have B4 := Lib.hid (B3.out.trans (hb.mono B3.out.size)); have R4 := Lib.hid (R3.out.below hb); clear c3_0a c3_0b c3_0l c3_1a c3_1b c3_1l c3_2a c3_2b c3_2l; obtain ⟨c4_0a, c4_0b, c4_0l⟩ := D4.out.at (b := w.heap.size) (x := af) (y := ad) (by simp); obtain ⟨c4_1a, c4_1b, c4_1l⟩ := D4.out.at (b := w.heap.size + 1) (x := bf) (y := bd) (by simp); obtain ⟨c4_2a, c4_2b, c4_2l⟩ := D4.out.at (b := w.heap.size + 1 + 1) (x := cf) (y := cd) (by simp); clear hb)
    | (clear TK4; go_at_call 26; refine (CC.out _ R4.out).mono ?_; rintro e w5 ⟨rfl, hb⟩; have D5 := Lib.hid (D4.out.later hb); have B5 := Lib.hid (B4.out.trans (hb.mono B4.out.size)); have R5 := Lib.hid (R4.out.below hb); clear c4_0a c4_0b c4_0l c4_1a c4_1b c4_1l c4_2a c4_2b c4_2l; obtain ⟨c5_0a, c5_0b, c5_0l⟩ := D5.out.at (b := w.heap.size) (x := af) (y := ad) (by simp); obtain ⟨c5_1a, c5_1b, c5_1l⟩ := D5.out.at (b := w.heap.size + 1) (x := bf) (y := bd) (by simp); obtain ⟨c5_2a, c5_2b, c5_2l⟩ := D5.out.at (b := w.heap.size + 1 + 1) (x := cf) (y := cd) (by simp); clear hb))
  go_ret
  exact ⟨rfl, B5.out⟩
theorem Held.cons {W : World} {L : List (Nat × ByteArray × ByteArray)} (h : Held W L) {b : Nat} {x y : ByteArray} (hb : Blk W b 24 #[.string x, .string y]) : Held W ((b, x, y) :: L) := by
  intro z hz
  rcases List.mem_cons.1 hz with rfl | hz
  · exact hb
  · exact h z hz
set_option maxRecDepth 100000 in
set_option maxHeartbeats 16000000 in
theorem order_walk (af ad bf bd cf cd : ByteArray) (abf abd bcf bcd xf xd acf acd mf md : ByteArray) (lb gb rb sb : Bool) (w : World) (HV : Hid (lightL2 [(af, ad), (bf, bd), (cf, cd)] = true)) (CA : Hid (∀ w, Res w → Calls Tryz.prog 26 #[.agg #[.string af, .string ad]] w fun e w' => e = .returned (.int .i64 0) ∧ Below w.heap.size w w')) (CB : Hid (∀ w, Res w → Calls Tryz.prog 26 #[.agg #[.string bf, .string bd]] w fun e w' => e = .returned (.int .i64 0) ∧ Below w.heap.size w w')) (CC : Hid (∀ w, Res w → Calls Tryz.prog 26 #[.agg #[.string cf, .string cd]] w fun e w' => e = .returned (.int .i64 0) ∧ Below w.heap.size w w'))
    (PAB : Hid (∀ w, Res w → Calls Tryz.prog 15 #[.agg #[.string af, .string ad], .agg #[.string bf, .string bd]] w fun e w' => e = .returned (.tuple #[.agg #[.string abf, .string abd], .int .i64 0]) ∧ Below w.heap.size w w'))
    (PBA : Hid (∀ w, Res w → Calls Tryz.prog 15 #[.agg #[.string bf, .string bd], .agg #[.string af, .string ad]] w fun e w' => e = .returned (.tuple #[.agg #[.string abf, .string abd], .int .i64 0]) ∧ Below w.heap.size w w'))
    (PBC : Hid (∀ w, Res w → Calls Tryz.prog 15 #[.agg #[.string bf, .string bd], .agg #[.string cf, .string cd]] w fun e w' => e = .returned (.tuple #[.agg #[.string bcf, .string bcd], .int .i64 0]) ∧ Below w.heap.size w w'))
    (PX : Hid (∀ w, Res w → Calls Tryz.prog 15 #[.agg #[.string abf, .string abd], .agg #[.string cf, .string cd]] w fun e w' => e = .returned (.tuple #[.agg #[.string xf, .string xd], .int .i64 0]) ∧ Below w.heap.size w w'))
    (PY : Hid (∀ w, Res w → Calls Tryz.prog 15 #[.agg #[.string af, .string ad], .agg #[.string bcf, .string bcd]] w fun e w' => e = .returned (.tuple #[.agg #[.string xf, .string xd], .int .i64 0]) ∧ Below w.heap.size w w'))
    (PZ : Hid (∀ w, Res w → Calls Tryz.prog 15 #[.agg #[.string af, .string ad], .agg #[.string ⟨#[49]⟩, .string ⟨#[48]⟩]] w fun e w' => e = .returned (.tuple #[.agg #[.string af, .string ad], .int .i64 0]) ∧ Below w.heap.size w w'))
    (PAC : Hid (∀ w, Res w → Calls Tryz.prog 15 #[.agg #[.string af, .string ad], .agg #[.string cf, .string cd]] w fun e w' => e = .returned (.tuple #[.agg #[.string acf, .string acd], .int .i64 0]) ∧ Below w.heap.size w w'))
    (PM : Hid (∀ w, Res w → Calls Tryz.prog 17 #[.agg #[.string af, .string ad], .agg #[.string bf, .string bd]] w fun e w' => e = .returned (.tuple #[.agg #[.string mf, .string md], .int .i64 0]) ∧ Below w.heap.size w w'))
    (F1 : Hid (∀ w, Res w → Calls Tryz.prog 19 #[.agg #[.string af, .string ad], .agg #[.string bf, .string bd]] w fun e w' => e = .returned (.tuple #[.bool lb, .int .i64 0]) ∧ Below w.heap.size w w'))
    (F2 : Hid (∀ w, Res w → Calls Tryz.prog 19 #[.agg #[.string acf, .string acd], .agg #[.string bcf, .string bcd]] w fun e w' => e = .returned (.tuple #[.bool gb, .int .i64 0]) ∧ Below w.heap.size w w'))
    (F3 : Hid (∀ w, Res w → Calls Tryz.prog 19 #[.agg #[.string af, .string ad], .agg #[.string mf, .string md]] w fun e w' => e = .returned (.tuple #[.bool true, .int .i64 0]) ∧ Below w.heap.size w w'))
    (F4 : Hid (∀ w, Res w → Calls Tryz.prog 19 #[.agg #[.string bf, .string bd], .agg #[.string mf, .string md]] w fun e w' => e = .returned (.tuple #[.bool true, .int .i64 0]) ∧ Below w.heap.size w w'))
    (F5 : Hid (∀ w, Res w → Calls Tryz.prog 19 #[.agg #[.string af, .string ad], .agg #[.string cf, .string cd]] w fun e w' => e = .returned (.tuple #[.bool rb, .int .i64 0]) ∧ Below w.heap.size w w'))
    (F6 : Hid (∀ w, Res w → Calls Tryz.prog 19 #[.agg #[.string bf, .string bd], .agg #[.string cf, .string cd]] w fun e w' => e = .returned (.tuple #[.bool sb, .int .i64 0]) ∧ Below w.heap.size w w'))
    (F7 : Hid (∀ w, Res w → Calls Tryz.prog 19 #[.agg #[.string mf, .string md], .agg #[.string cf, .string cd]] w fun e w' => e = .returned (.tuple #[.bool (rb && sb), .int .i64 0]) ∧ Below w.heap.size w w'))
    (hl : lb = true → gb = true) (hr : Res w) :
    Calls Tryz.prog 4 #[.agg #[.string af, .string ad], .agg #[.string bf, .string bd], .agg #[.string cf, .string cd]] w fun e w' => e = .returned (.bool true) ∧ Below w.heap.size w w' := by
  have D0 := Lib.hid (Held.three (a := af) (b := ad) (c := bf) (d := bd) (e := cf) (f := cd) hr)
  have B0 := Lib.hid (below_alloc (below_alloc (below_alloc (Below.refl w.heap.size w) (.cells #[.string af, .string ad] 24)) (.cells #[.string bf, .string bd] 24)) (.cells #[.string cf, .string cd] 24))
  have R0 := Lib.hid (Res.below hr B0.out)
  clear hr
  have TK1 : True := trivial
  have TK2 : True := trivial
  have TK3 : True := trivial
  have TK4 : True := trivial
  have TK5 : True := trivial
  have TK6 : True := trivial
  have TK7 : True := trivial
  have TK8 : True := trivial
  have TK9 : True := trivial
  go_enter Tryz.func4, Tryz.ntmps4
  go_wp2_with (first
    | (clear TK1; go_at_call 13; refine (llives_any _ R0.out).mono ?_; rintro e w1 ⟨rfl, hb⟩; have D1 := Lib.hid (D0.out.later hb); have B1 := Lib.hid (B0.out.trans (hb.mono B0.out.size)); have R1 := Lib.hid (R0.out.below hb); obtain ⟨c1_0a, c1_0b, c1_0l⟩ := D1.out.at (b := w.heap.size) (x := af) (y := ad) (by simp); obtain ⟨c1_1a, c1_1b, c1_1l⟩ := D1.out.at (b := w.heap.size + 1) (x := bf) (y := bd) (by simp); obtain ⟨c1_2a, c1_2b, c1_2l⟩ := D1.out.at (b := w.heap.size + 1 + 1) (x := cf) (y := cd) (by simp); clear hb)
    | (go_at_call 14; refine (llight_any [(af, ad), (bf, bd), (cf, cd)] _ _ (LRow.three (Blk.new w1 _ _))).mono ?_; rintro e w2 ⟨rfl, hw⟩; rw [HV.out]; have hb : Below w1.heap.size w1 w2 := (by rw [hw]; exact below_alloc (Below.refl _ _) _); have D2 := Lib.hid (D1.out.later hb); have B2 := Lib.hid (B1.out.trans (hb.mono B1.out.size)); have R2 := Lib.hid (R1.out.below hb); clear c1_0a c1_0b c1_0l c1_1a c1_1b c1_1l c1_2a c1_2b c1_2l; obtain ⟨c2_0a, c2_0b, c2_0l⟩ := D2.out.at (b := w.heap.size) (x := af) (y := ad) (by simp); obtain ⟨c2_1a, c2_1b, c2_1l⟩ := D2.out.at (b := w.heap.size + 1) (x := bf) (y := bd) (by simp); obtain ⟨c2_2a, c2_2b, c2_2l⟩ := D2.out.at (b := w.heap.size + 1 + 1) (x := cf) (y := cd) (by simp); clear hb hw)
    | (clear TK2; go_at_call 26; refine (CA.out _ R2.out).mono ?_; rintro e w3 ⟨rfl, hb⟩; have D3 := Lib.hid (D2.out.later hb); have B3 := Lib.hid (B2.out.trans (hb.mono B2.out.size)); have R3 := Lib.hid (R2.out.below hb); clear c2_0a c2_0b c2_0l c2_1a c2_1b c2_1l c2_2a c2_2b c2_2l; obtain ⟨c3_0a, c3_0b, c3_0l⟩ := D3.out.at (b := w.heap.size) (x := af) (y := ad) (by simp); obtain ⟨c3_1a, c3_1b, c3_1l⟩ := D3.out.at (b := w.heap.size + 1) (x := bf) (y := bd) (by simp); obtain ⟨c3_2a, c3_2b, c3_2l⟩ := D3.out.at (b := w.heap.size + 1 + 1) (x := cf) (y := cd) (by simp); clear hb)
    | (clear TK3; go_at_call 26; refine (CB.out _ R3.out).mono ?_; rintro e w4 ⟨rfl, hb⟩; have D4 := Lib.hid (D3.out.later hb); have B4 := Lib.hid (B3.out.trans (hb.mono B3.out.size)); have R4 := Lib.hid (R3.out.below hb); clear c3_0a c3_0b c3_0l c3_1a c3_1b c3_1l c3_2a c3_2b c3_2l; obtain ⟨c4_0a, c4_0b, c4_0l⟩ := D4.out.at (b := w.heap.size) (x := af) (y := ad) (by simp); obtain ⟨c4_1a, c4_1b, c4_1l⟩ := D4.out.at (b := w.heap.size + 1) (x := bf) (y := bd) (by simp); obtain ⟨c4_2a, c4_2b, c4_2l⟩ := D4.out.at (b := w.heap.size + 1 + 1) (x := cf) (y := cd) (by simp); clear hb)
    | (clear TK4; go_at_call 26; refine (CC.out _ R4.out).mono ?_; rintro e w5 ⟨rfl, hb⟩; have D5 := Lib.hid (D4.out.later hb); have B5 := Lib.hid (B4.out.trans (hb.mono B4.out.size)); have R5 := Lib.hid (R4.out.below hb); clear c4_0a c4_0b c4_0l c4_1a c4_1b c4_1l c4_2a c4_2b c4_2l; obtain ⟨c5_0a, c5_0b, c5_0l⟩ := D5.out.at (b := w.heap.size) (x := af) (y := ad) (by simp); obtain ⟨c5_1a, c5_1b, c5_1l⟩ := D5.out.at (b := w.heap.size + 1) (x := bf) (y := bd) (by simp); obtain ⟨c5_2a, c5_2b, c5_2l⟩ := D5.out.at (b := w.heap.size + 1 + 1) (x := cf) (y := cd) (by simp); clear hb)
    | (clear TK5; go_at_call 15; refine (PAB.out _ R5.out).mono ?_; rintro e w6 ⟨rfl, hb⟩; have D6 := Lib.hid (D5.out.later hb); have B6 := Lib.hid (B5.out.trans (hb.mono B5.out.size)); have R6 := Lib.hid (R5.out.below hb); clear c5_0a c5_0b c5_0l c5_1a c5_1b c5_1l c5_2a c5_2b c5_2l; obtain ⟨c6_0a, c6_0b, c6_0l⟩ := D6.out.at (b := w.heap.size) (x := af) (y := ad) (by simp); obtain ⟨c6_1a, c6_1b, c6_1l⟩ := D6.out.at (b := w.heap.size + 1) (x := bf) (y := bd) (by simp); obtain ⟨c6_2a, c6_2b, c6_2l⟩ := D6.out.at (b := w.heap.size + 1 + 1) (x := cf) (y := cd) (by simp); clear hb)
    | (clear TK6; go_at_call 15; refine (PBA.out _ (R6.out.below (below_alloc (Below.refl _ _) _))).mono ?_; rintro e w7 ⟨rfl, hb⟩; have D7 := Lib.hid (Held.later (D6.out.push abf abd) hb); have B7 := Lib.hid ((below_alloc B6.out (.cells #[.string abf, .string abd] 24)).trans (hb.mono (below_alloc B6.out (.cells #[.string abf, .string abd] 24)).size)); have R7 := Lib.hid (Res.below (R6.out.below (below_alloc (Below.refl _ _) (.cells #[.string abf, .string abd] 24))) hb); clear c6_0a c6_0b c6_0l c6_1a c6_1b c6_1l c6_2a c6_2b c6_2l; obtain ⟨c7_0a, c7_0b, c7_0l⟩ := D7.out.at (b := w6.heap.size) (x := abf) (y := abd) (by simp); obtain ⟨c7_1a, c7_1b, c7_1l⟩ := D7.out.at (b := w.heap.size) (x := af) (y := ad) (by simp); obtain ⟨c7_2a, c7_2b, c7_2l⟩ := D7.out.at (b := w.heap.size + 1) (x := bf) (y := bd) (by simp); obtain ⟨c7_3a, c7_3b, c7_3l⟩ := D7.out.at (b := w.heap.size + 1 + 1) (x := cf) (y := cd) (by simp); clear hb)
    | (clear TK7; go_at_call 15; refine (PBC.out _ (R7.out.below (below_alloc (Below.refl _ _) _))).mono ?_; rintro e w8 ⟨rfl, hb⟩; have D8 := Lib.hid (Held.later (D7.out.push abf abd) hb); have B8 := Lib.hid ((below_alloc B7.out (.cells #[.string abf, .string abd] 24)).trans (hb.mono (below_alloc B7.out (.cells #[.string abf, .string abd] 24)).size)); have R8 := Lib.hid (Res.below (R7.out.below (below_alloc (Below.refl _ _) (.cells #[.string abf, .string abd] 24))) hb); clear c7_0a c7_0b c7_0l c7_1a c7_1b c7_1l c7_2a c7_2b c7_2l c7_3a c7_3b c7_3l; obtain ⟨c8_0a, c8_0b, c8_0l⟩ := D8.out.at (b := w7.heap.size) (x := abf) (y := abd) (by simp); obtain ⟨c8_1a, c8_1b, c8_1l⟩ := D8.out.at (b := w6.heap.size) (x := abf) (y := abd) (by simp); obtain ⟨c8_2a, c8_2b, c8_2l⟩ := D8.out.at (b := w.heap.size) (x := af) (y := ad) (by simp); obtain ⟨c8_3a, c8_3b, c8_3l⟩ := D8.out.at (b := w.heap.size + 1) (x := bf) (y := bd) (by simp); obtain ⟨c8_4a, c8_4b, c8_4l⟩ := D8.out.at (b := w.heap.size + 1 + 1) (x := cf) (y := cd) (by simp); clear hb)
    | (clear TK8; go_at_call 15; refine (PX.out _ (R8.out.below (below_alloc (Below.refl _ _) _))).mono ?_; rintro e w9 ⟨rfl, hb⟩; have D9 := Lib.hid (Held.later (D8.out.push bcf bcd) hb); have B9 := Lib.hid ((below_alloc B8.out (.cells #[.string bcf, .string bcd] 24)).trans (hb.mono (below_alloc B8.out (.cells #[.string bcf, .string bcd] 24)).size)); have R9 := Lib.hid (Res.below (R8.out.below (below_alloc (Below.refl _ _) (.cells #[.string bcf, .string bcd] 24))) hb); clear c8_0a c8_0b c8_0l c8_1a c8_1b c8_1l c8_2a c8_2b c8_2l c8_3a c8_3b c8_3l c8_4a c8_4b c8_4l; obtain ⟨c9_0a, c9_0b, c9_0l⟩ := D9.out.at (b := w8.heap.size) (x := bcf) (y := bcd) (by simp); obtain ⟨c9_1a, c9_1b, c9_1l⟩ := D9.out.at (b := w7.heap.size) (x := abf) (y := abd) (by simp); obtain ⟨c9_2a, c9_2b, c9_2l⟩ := D9.out.at (b := w6.heap.size) (x := abf) (y := abd) (by simp); obtain ⟨c9_3a, c9_3b, c9_3l⟩ := D9.out.at (b := w.heap.size) (x := af) (y := ad) (by simp); obtain ⟨c9_4a, c9_4b, c9_4l⟩ := D9.out.at (b := w.heap.size + 1) (x := bf) (y := bd) (by simp); obtain ⟨c9_5a, c9_5b, c9_5l⟩ := D9.out.at (b := w.heap.size + 1 + 1) (x := cf) (y := cd) (by simp); clear hb)
    | (clear TK9; go_at_call 15; refine (PY.out _ (R9.out.below (below_alloc (Below.refl _ _) _))).mono ?_; rintro e w10 ⟨rfl, hb⟩; have D10 := Lib.hid (Held.later (D9.out.push xf xd) hb); have B10 := Lib.hid ((below_alloc B9.out (.cells #[.string xf, .string xd] 24)).trans (hb.mono (below_alloc B9.out (.cells #[.string xf, .string xd] 24)).size)); have R10 := Lib.hid (Res.below (R9.out.below (below_alloc (Below.refl _ _) (.cells #[.string xf, .string xd] 24))) hb); clear c9_0a c9_0b c9_0l c9_1a c9_1b c9_1l c9_2a c9_2b c9_2l c9_3a c9_3b c9_3l c9_4a c9_4b c9_4l c9_5a c9_5b c9_5l; obtain ⟨c10_0a, c10_0b, c10_0l⟩ := D10.out.at (b := w9.heap.size) (x := xf) (y := xd) (by simp); obtain ⟨c10_1a, c10_1b, c10_1l⟩ := D10.out.at (b := w8.heap.size) (x := bcf) (y := bcd) (by simp); obtain ⟨c10_2a, c10_2b, c10_2l⟩ := D10.out.at (b := w7.heap.size) (x := abf) (y := abd) (by simp); obtain ⟨c10_3a, c10_3b, c10_3l⟩ := D10.out.at (b := w6.heap.size) (x := abf) (y := abd) (by simp); obtain ⟨c10_4a, c10_4b, c10_4l⟩ := D10.out.at (b := w.heap.size) (x := af) (y := ad) (by simp); obtain ⟨c10_5a, c10_5b, c10_5l⟩ := D10.out.at (b := w.heap.size + 1) (x := bf) (y := bd) (by simp); obtain ⟨c10_6a, c10_6b, c10_6l⟩ := D10.out.at (b := w.heap.size + 1 + 1) (x := cf) (y := cd) (by simp); clear hb))
  have DF := Lib.hid (D10.out.push xf xd)
  have BF := Lib.hid (below_alloc B10.out (.cells #[.string xf, .string xd] 24))
  have RF := Lib.hid (R10.out.below (below_alloc (Below.refl _ _) (.cells #[.string xf, .string xd] 24)))
  clear c10_0a c10_0b c10_0l c10_1a c10_1b c10_1l c10_2a c10_2b c10_2l c10_3a c10_3b c10_3l c10_4a c10_4b c10_4l c10_5a c10_5b c10_5l c10_6a c10_6b c10_6l
  generalize w10.alloc (.cells #[.string xf, .string xd] 24) = WF at *
  have hmx : Tryz.prog.follows .mixedOrders = true := by kernel_rfl
  have LA := DF.out.at (b := w.heap.size) (x := af) (y := ad) (by simp)
  obtain ⟨x0, x1⟩ := same_two (S := fun k => k < WF.heap.size) (DF.out (w.heap.size, af, ad) (by simp)) LA.2.2
  clear LA
  refine wpIn_wide.1 (wpIn_stage (n := 3) (IsSame WF (fun k => k < WF.heap.size)) [0, 3, 4, 5] [] hmx (by kernel_rfl) (isSame_of fun _ _ => rfl) ?_)
  change wpStage _ _ _ _ _ _ _ _ (8 + 1) _ _ _
  refine stage_reads [0] 8 _ _ (by kernel_rfl) ?_
  change wpQuietIn _ _ _ _ (fun W' => ∃ x : SameAt WF (fun k => k < WF.heap.size), W' = x.W) _ _ _
  simp only [pick_cons, pick_nil, List.getElem?_cons_zero, Option.elim_some]
  repeat (gi_big_quiet_step (fail))
  refine wpQuietIn_nil ?_
  refine stage_two 1 6 (by kernel_rfl) rfl rfl ?_ ?_
  · gi_wp2
    refine ⟨trivial, ?_⟩
    refine (callsIn_wide.2 (none_any _)).mono ?_
    rintro e wn ⟨rfl, hb⟩
    have HN := Lib.hid (show Below WF.heap.size WF wn from below_undrew hb)
    clear hb
    gi_wp2
    refine stage_post (isSame_below HN.out (fun k hk => hk)) ?_
    refine stage_two 2 6 (by kernel_rfl) rfl rfl ?_ ?_
    · gi_wp2
      refine ⟨trivial, ?_⟩
      refine (callsIn_wide.2 (PZ.out _ (RF.out.below HN.out))).mono ?_
      rintro e wa ⟨rfl, hb⟩
      have HA := Lib.hid (HN.out.trans (hb.mono HN.out.size))
      clear hb
      gi_wp2
      refine stage_post (isSame_below HA.out (fun k hk => hk)) ?_
      change wpStage _ _ _ _ _ _ _ _ (3 + 3) _ _ _
      refine stage_reads [3, 4, 5] 3 _ _ (by kernel_rfl) ?_
      change wpQuietIn _ _ _ _ (fun W' => ∃ x : SameAt WF (fun k => k < WF.heap.size), W' = x.W) _ _ _
      simp only [pick_cons, pick_nil, List.getElem?_cons_zero, List.getElem?_cons_succ, Option.elim_some]
      repeat (gi_big_quiet_step (fail))
      refine wpQuietIn_nil ?_
      refine stage_one 6 (by kernel_rfl) rfl ?_
      gi_wp2
      have HA2 := Lib.hid (below_alloc HA.out (.cells #[.string ⟨#[]⟩, .string ⟨#[]⟩] 24))
      have KA := Lib.hid (Blk.new wa 24 #[.string ⟨#[]⟩, .string ⟨#[]⟩])
      have HLE := Lib.hid HA.out.size
      generalize wa.alloc (.cells #[.string ⟨#[]⟩, .string ⟨#[]⟩] 24) = W1 at *
      refine stage_post (isSame_below HA2.out (fun k hk => hk)) ?_
      obtain ⟨r0, r1⟩ := cells2 KA.out
      have z0 := KA.out.frozen 0
      have z1 := KA.out.frozen 1
      have zl := KA.out.lt
      refine stage_one 7 (by kernel_rfl) rfl ?_
      gi_wp2
      have HZ := Lib.hid (show Below WF.heap.size WF ((W1.setCell ⟨wa.heap.size, 0, none⟩ (.string af)).setCell ⟨wa.heap.size, 1, none⟩ (.string ad)) from ((HA2.out).setCell HLE.out _).setCell HLE.out _)
      have KZ := Lib.hid ((KA.out.set_ 0 (.string af)).set_ 1 (.string ad))
      clear r0 r1 z0 z1 zl
      refine stage_post (isSame_below HZ.out (fun k hk => hk)) ?_
      refine stage_one 8 (by kernel_rfl) rfl ?_
      gi_wp2
      refine stage_post (isSame_below HZ.out (fun k hk => hk)) ?_
      refine stage_done (by kernel_rfl) ?_
      have DK := Lib.hid (Held.cons (DF.out.later HZ.out) KZ.out)
      have BK := Lib.hid (BF.out.trans (HZ.out.mono BF.out.size))
      have RK := Lib.hid (RF.out.below HZ.out)
      generalize (W1.setCell ⟨wa.heap.size, 0, none⟩ (.string af)).setCell ⟨wa.heap.size, 1, none⟩ (.string ad) = WZ at *
      clear HZ KZ HLE
      have D11 := DK
      have B11 := BK
      have R11 := RK
      clear DK BK RK
      obtain ⟨cz_0a, cz_0b, cz_0l⟩ := D11.out.at (b := wa.heap.size) (x := af) (y := ad) (by simp)
      obtain ⟨cz_1a, cz_1b, cz_1l⟩ := D11.out.at (b := w10.heap.size) (x := xf) (y := xd) (by simp)
      obtain ⟨cz_2a, cz_2b, cz_2l⟩ := D11.out.at (b := w9.heap.size) (x := xf) (y := xd) (by simp)
      obtain ⟨cz_3a, cz_3b, cz_3l⟩ := D11.out.at (b := w8.heap.size) (x := bcf) (y := bcd) (by simp)
      obtain ⟨cz_4a, cz_4b, cz_4l⟩ := D11.out.at (b := w7.heap.size) (x := abf) (y := abd) (by simp)
      obtain ⟨cz_5a, cz_5b, cz_5l⟩ := D11.out.at (b := w6.heap.size) (x := abf) (y := abd) (by simp)
      obtain ⟨cz_6a, cz_6b, cz_6l⟩ := D11.out.at (b := w.heap.size) (x := af) (y := ad) (by simp)
      obtain ⟨cz_7a, cz_7b, cz_7l⟩ := D11.out.at (b := w.heap.size + 1) (x := bf) (y := bd) (by simp)
      obtain ⟨cz_8a, cz_8b, cz_8l⟩ := D11.out.at (b := w.heap.size + 1 + 1) (x := cf) (y := cd) (by simp)
      have TK10 : True := trivial
      have TK11 : True := trivial
      have TK12 : True := trivial
      have TK13 : True := trivial
      have TK14 : True := trivial
      have TK15 : True := trivial
      have TK16 : True := trivial
      have TK17 : True := trivial
      go_wp2_with (first
        | (clear TK10; go_at_call 15; refine (PAC.out _ R11.out).mono ?_; rintro e w12 ⟨rfl, hb⟩; have D12 := Lib.hid (D11.out.later hb); have B12 := Lib.hid (B11.out.trans (hb.mono B11.out.size)); have R12 := Lib.hid (R11.out.below hb); obtain ⟨c12_0a, c12_0b, c12_0l⟩ := D12.out.at (b := wa.heap.size) (x := af) (y := ad) (by simp); obtain ⟨c12_1a, c12_1b, c12_1l⟩ := D12.out.at (b := w10.heap.size) (x := xf) (y := xd) (by simp); obtain ⟨c12_2a, c12_2b, c12_2l⟩ := D12.out.at (b := w9.heap.size) (x := xf) (y := xd) (by simp); obtain ⟨c12_3a, c12_3b, c12_3l⟩ := D12.out.at (b := w8.heap.size) (x := bcf) (y := bcd) (by simp); obtain ⟨c12_4a, c12_4b, c12_4l⟩ := D12.out.at (b := w7.heap.size) (x := abf) (y := abd) (by simp); obtain ⟨c12_5a, c12_5b, c12_5l⟩ := D12.out.at (b := w6.heap.size) (x := abf) (y := abd) (by simp); obtain ⟨c12_6a, c12_6b, c12_6l⟩ := D12.out.at (b := w.heap.size) (x := af) (y := ad) (by simp); obtain ⟨c12_7a, c12_7b, c12_7l⟩ := D12.out.at (b := w.heap.size + 1) (x := bf) (y := bd) (by simp); obtain ⟨c12_8a, c12_8b, c12_8l⟩ := D12.out.at (b := w.heap.size + 1 + 1) (x := cf) (y := cd) (by simp); clear hb)
        | (go_at_call 17; refine (PM.out _ (R12.out.below (below_alloc (Below.refl _ _) _))).mono ?_; rintro e w13 ⟨rfl, hb⟩; have D13 := Lib.hid (Held.later (D12.out.push acf acd) hb); have B13 := Lib.hid ((below_alloc B12.out (.cells #[.string acf, .string acd] 24)).trans (hb.mono (below_alloc B12.out (.cells #[.string acf, .string acd] 24)).size)); have R13 := Lib.hid (Res.below (R12.out.below (below_alloc (Below.refl _ _) (.cells #[.string acf, .string acd] 24))) hb); clear c12_0a c12_0b c12_0l c12_1a c12_1b c12_1l c12_2a c12_2b c12_2l c12_3a c12_3b c12_3l c12_4a c12_4b c12_4l c12_5a c12_5b c12_5l c12_6a c12_6b c12_6l c12_7a c12_7b c12_7l c12_8a c12_8b c12_8l; obtain ⟨c13_0a, c13_0b, c13_0l⟩ := D13.out.at (b := w12.heap.size) (x := acf) (y := acd) (by simp); obtain ⟨c13_1a, c13_1b, c13_1l⟩ := D13.out.at (b := wa.heap.size) (x := af) (y := ad) (by simp); obtain ⟨c13_2a, c13_2b, c13_2l⟩ := D13.out.at (b := w10.heap.size) (x := xf) (y := xd) (by simp); obtain ⟨c13_3a, c13_3b, c13_3l⟩ := D13.out.at (b := w9.heap.size) (x := xf) (y := xd) (by simp); obtain ⟨c13_4a, c13_4b, c13_4l⟩ := D13.out.at (b := w8.heap.size) (x := bcf) (y := bcd) (by simp); obtain ⟨c13_5a, c13_5b, c13_5l⟩ := D13.out.at (b := w7.heap.size) (x := abf) (y := abd) (by simp); obtain ⟨c13_6a, c13_6b, c13_6l⟩ := D13.out.at (b := w6.heap.size) (x := abf) (y := abd) (by simp); obtain ⟨c13_7a, c13_7b, c13_7l⟩ := D13.out.at (b := w.heap.size) (x := af) (y := ad) (by simp); obtain ⟨c13_8a, c13_8b, c13_8l⟩ := D13.out.at (b := w.heap.size + 1) (x := bf) (y := bd) (by simp); obtain ⟨c13_9a, c13_9b, c13_9l⟩ := D13.out.at (b := w.heap.size + 1 + 1) (x := cf) (y := cd) (by simp); clear hb)
        | (clear TK11; go_at_call 19; refine (F1.out _ (R13.out.below (below_alloc (Below.refl _ _) _))).mono ?_; rintro e w14 ⟨rfl, hb⟩; have D14 := Lib.hid (Held.later (D13.out.push mf md) hb); have B14 := Lib.hid ((below_alloc B13.out (.cells #[.string mf, .string md] 24)).trans (hb.mono (below_alloc B13.out (.cells #[.string mf, .string md] 24)).size)); have R14 := Lib.hid (Res.below (R13.out.below (below_alloc (Below.refl _ _) (.cells #[.string mf, .string md] 24))) hb); clear c13_0a c13_0b c13_0l c13_1a c13_1b c13_1l c13_2a c13_2b c13_2l c13_3a c13_3b c13_3l c13_4a c13_4b c13_4l c13_5a c13_5b c13_5l c13_6a c13_6b c13_6l c13_7a c13_7b c13_7l c13_8a c13_8b c13_8l c13_9a c13_9b c13_9l; obtain ⟨c14_0a, c14_0b, c14_0l⟩ := D14.out.at (b := w13.heap.size) (x := mf) (y := md) (by simp); obtain ⟨c14_1a, c14_1b, c14_1l⟩ := D14.out.at (b := w12.heap.size) (x := acf) (y := acd) (by simp); obtain ⟨c14_2a, c14_2b, c14_2l⟩ := D14.out.at (b := wa.heap.size) (x := af) (y := ad) (by simp); obtain ⟨c14_3a, c14_3b, c14_3l⟩ := D14.out.at (b := w10.heap.size) (x := xf) (y := xd) (by simp); obtain ⟨c14_4a, c14_4b, c14_4l⟩ := D14.out.at (b := w9.heap.size) (x := xf) (y := xd) (by simp); obtain ⟨c14_5a, c14_5b, c14_5l⟩ := D14.out.at (b := w8.heap.size) (x := bcf) (y := bcd) (by simp); obtain ⟨c14_6a, c14_6b, c14_6l⟩ := D14.out.at (b := w7.heap.size) (x := abf) (y := abd) (by simp); obtain ⟨c14_7a, c14_7b, c14_7l⟩ := D14.out.at (b := w6.heap.size) (x := abf) (y := abd) (by simp); obtain ⟨c14_8a, c14_8b, c14_8l⟩ := D14.out.at (b := w.heap.size) (x := af) (y := ad) (by simp); obtain ⟨c14_9a, c14_9b, c14_9l⟩ := D14.out.at (b := w.heap.size + 1) (x := bf) (y := bd) (by simp); obtain ⟨c14_10a, c14_10b, c14_10l⟩ := D14.out.at (b := w.heap.size + 1 + 1) (x := cf) (y := cd) (by simp); clear hb)
        | (clear TK12; go_at_call 19; refine (F2.out _ R14.out).mono ?_; rintro e w15 ⟨rfl, hb⟩; have D15 := Lib.hid (D14.out.later hb); have B15 := Lib.hid (B14.out.trans (hb.mono B14.out.size)); have R15 := Lib.hid (R14.out.below hb); clear c14_0a c14_0b c14_0l c14_1a c14_1b c14_1l c14_2a c14_2b c14_2l c14_3a c14_3b c14_3l c14_4a c14_4b c14_4l c14_5a c14_5b c14_5l c14_6a c14_6b c14_6l c14_7a c14_7b c14_7l c14_8a c14_8b c14_8l c14_9a c14_9b c14_9l c14_10a c14_10b c14_10l; obtain ⟨c15_0a, c15_0b, c15_0l⟩ := D15.out.at (b := w13.heap.size) (x := mf) (y := md) (by simp); obtain ⟨c15_1a, c15_1b, c15_1l⟩ := D15.out.at (b := w12.heap.size) (x := acf) (y := acd) (by simp); obtain ⟨c15_2a, c15_2b, c15_2l⟩ := D15.out.at (b := wa.heap.size) (x := af) (y := ad) (by simp); obtain ⟨c15_3a, c15_3b, c15_3l⟩ := D15.out.at (b := w10.heap.size) (x := xf) (y := xd) (by simp); obtain ⟨c15_4a, c15_4b, c15_4l⟩ := D15.out.at (b := w9.heap.size) (x := xf) (y := xd) (by simp); obtain ⟨c15_5a, c15_5b, c15_5l⟩ := D15.out.at (b := w8.heap.size) (x := bcf) (y := bcd) (by simp); obtain ⟨c15_6a, c15_6b, c15_6l⟩ := D15.out.at (b := w7.heap.size) (x := abf) (y := abd) (by simp); obtain ⟨c15_7a, c15_7b, c15_7l⟩ := D15.out.at (b := w6.heap.size) (x := abf) (y := abd) (by simp); obtain ⟨c15_8a, c15_8b, c15_8l⟩ := D15.out.at (b := w.heap.size) (x := af) (y := ad) (by simp); obtain ⟨c15_9a, c15_9b, c15_9l⟩ := D15.out.at (b := w.heap.size + 1) (x := bf) (y := bd) (by simp); obtain ⟨c15_10a, c15_10b, c15_10l⟩ := D15.out.at (b := w.heap.size + 1 + 1) (x := cf) (y := cd) (by simp); clear hb)
        | (clear TK13; go_at_call 19; refine (F3.out _ R15.out).mono ?_; rintro e w16 ⟨rfl, hb⟩; have D16 := Lib.hid (D15.out.later hb); have B16 := Lib.hid (B15.out.trans (hb.mono B15.out.size)); have R16 := Lib.hid (R15.out.below hb); clear c15_0a c15_0b c15_0l c15_1a c15_1b c15_1l c15_2a c15_2b c15_2l c15_3a c15_3b c15_3l c15_4a c15_4b c15_4l c15_5a c15_5b c15_5l c15_6a c15_6b c15_6l c15_7a c15_7b c15_7l c15_8a c15_8b c15_8l c15_9a c15_9b c15_9l c15_10a c15_10b c15_10l; obtain ⟨c16_0a, c16_0b, c16_0l⟩ := D16.out.at (b := w13.heap.size) (x := mf) (y := md) (by simp); obtain ⟨c16_1a, c16_1b, c16_1l⟩ := D16.out.at (b := w12.heap.size) (x := acf) (y := acd) (by simp); obtain ⟨c16_2a, c16_2b, c16_2l⟩ := D16.out.at (b := wa.heap.size) (x := af) (y := ad) (by simp); obtain ⟨c16_3a, c16_3b, c16_3l⟩ := D16.out.at (b := w10.heap.size) (x := xf) (y := xd) (by simp); obtain ⟨c16_4a, c16_4b, c16_4l⟩ := D16.out.at (b := w9.heap.size) (x := xf) (y := xd) (by simp); obtain ⟨c16_5a, c16_5b, c16_5l⟩ := D16.out.at (b := w8.heap.size) (x := bcf) (y := bcd) (by simp); obtain ⟨c16_6a, c16_6b, c16_6l⟩ := D16.out.at (b := w7.heap.size) (x := abf) (y := abd) (by simp); obtain ⟨c16_7a, c16_7b, c16_7l⟩ := D16.out.at (b := w6.heap.size) (x := abf) (y := abd) (by simp); obtain ⟨c16_8a, c16_8b, c16_8l⟩ := D16.out.at (b := w.heap.size) (x := af) (y := ad) (by simp); obtain ⟨c16_9a, c16_9b, c16_9l⟩ := D16.out.at (b := w.heap.size + 1) (x := bf) (y := bd) (by simp); obtain ⟨c16_10a, c16_10b, c16_10l⟩ := D16.out.at (b := w.heap.size + 1 + 1) (x := cf) (y := cd) (by simp); clear hb)
        | (clear TK14; go_at_call 19; refine (F4.out _ R16.out).mono ?_; rintro e w17 ⟨rfl, hb⟩; have D17 := Lib.hid (D16.out.later hb); have B17 := Lib.hid (B16.out.trans (hb.mono B16.out.size)); have R17 := Lib.hid (R16.out.below hb); clear c16_0a c16_0b c16_0l c16_1a c16_1b c16_1l c16_2a c16_2b c16_2l c16_3a c16_3b c16_3l c16_4a c16_4b c16_4l c16_5a c16_5b c16_5l c16_6a c16_6b c16_6l c16_7a c16_7b c16_7l c16_8a c16_8b c16_8l c16_9a c16_9b c16_9l c16_10a c16_10b c16_10l; obtain ⟨c17_0a, c17_0b, c17_0l⟩ := D17.out.at (b := w13.heap.size) (x := mf) (y := md) (by simp); obtain ⟨c17_1a, c17_1b, c17_1l⟩ := D17.out.at (b := w12.heap.size) (x := acf) (y := acd) (by simp); obtain ⟨c17_2a, c17_2b, c17_2l⟩ := D17.out.at (b := wa.heap.size) (x := af) (y := ad) (by simp); obtain ⟨c17_3a, c17_3b, c17_3l⟩ := D17.out.at (b := w10.heap.size) (x := xf) (y := xd) (by simp); obtain ⟨c17_4a, c17_4b, c17_4l⟩ := D17.out.at (b := w9.heap.size) (x := xf) (y := xd) (by simp); obtain ⟨c17_5a, c17_5b, c17_5l⟩ := D17.out.at (b := w8.heap.size) (x := bcf) (y := bcd) (by simp); obtain ⟨c17_6a, c17_6b, c17_6l⟩ := D17.out.at (b := w7.heap.size) (x := abf) (y := abd) (by simp); obtain ⟨c17_7a, c17_7b, c17_7l⟩ := D17.out.at (b := w6.heap.size) (x := abf) (y := abd) (by simp); obtain ⟨c17_8a, c17_8b, c17_8l⟩ := D17.out.at (b := w.heap.size) (x := af) (y := ad) (by simp); obtain ⟨c17_9a, c17_9b, c17_9l⟩ := D17.out.at (b := w.heap.size + 1) (x := bf) (y := bd) (by simp); obtain ⟨c17_10a, c17_10b, c17_10l⟩ := D17.out.at (b := w.heap.size + 1 + 1) (x := cf) (y := cd) (by simp); clear hb)
        | (clear TK15; go_at_call 19; refine (F5.out _ R17.out).mono ?_; rintro e w18 ⟨rfl, hb⟩; have D18 := Lib.hid (D17.out.later hb); have B18 := Lib.hid (B17.out.trans (hb.mono B17.out.size)); have R18 := Lib.hid (R17.out.below hb); clear c17_0a c17_0b c17_0l c17_1a c17_1b c17_1l c17_2a c17_2b c17_2l c17_3a c17_3b c17_3l c17_4a c17_4b c17_4l c17_5a c17_5b c17_5l c17_6a c17_6b c17_6l c17_7a c17_7b c17_7l c17_8a c17_8b c17_8l c17_9a c17_9b c17_9l c17_10a c17_10b c17_10l; obtain ⟨c18_0a, c18_0b, c18_0l⟩ := D18.out.at (b := w13.heap.size) (x := mf) (y := md) (by simp); obtain ⟨c18_1a, c18_1b, c18_1l⟩ := D18.out.at (b := w12.heap.size) (x := acf) (y := acd) (by simp); obtain ⟨c18_2a, c18_2b, c18_2l⟩ := D18.out.at (b := wa.heap.size) (x := af) (y := ad) (by simp); obtain ⟨c18_3a, c18_3b, c18_3l⟩ := D18.out.at (b := w10.heap.size) (x := xf) (y := xd) (by simp); obtain ⟨c18_4a, c18_4b, c18_4l⟩ := D18.out.at (b := w9.heap.size) (x := xf) (y := xd) (by simp); obtain ⟨c18_5a, c18_5b, c18_5l⟩ := D18.out.at (b := w8.heap.size) (x := bcf) (y := bcd) (by simp); obtain ⟨c18_6a, c18_6b, c18_6l⟩ := D18.out.at (b := w7.heap.size) (x := abf) (y := abd) (by simp); obtain ⟨c18_7a, c18_7b, c18_7l⟩ := D18.out.at (b := w6.heap.size) (x := abf) (y := abd) (by simp); obtain ⟨c18_8a, c18_8b, c18_8l⟩ := D18.out.at (b := w.heap.size) (x := af) (y := ad) (by simp); obtain ⟨c18_9a, c18_9b, c18_9l⟩ := D18.out.at (b := w.heap.size + 1) (x := bf) (y := bd) (by simp); obtain ⟨c18_10a, c18_10b, c18_10l⟩ := D18.out.at (b := w.heap.size + 1 + 1) (x := cf) (y := cd) (by simp); clear hb)
        | (clear TK16; go_at_call 19; refine (F6.out _ R18.out).mono ?_; rintro e w19 ⟨rfl, hb⟩; have D19 := Lib.hid (D18.out.later hb); have B19 := Lib.hid (B18.out.trans (hb.mono B18.out.size)); have R19 := Lib.hid (R18.out.below hb); clear c18_0a c18_0b c18_0l c18_1a c18_1b c18_1l c18_2a c18_2b c18_2l c18_3a c18_3b c18_3l c18_4a c18_4b c18_4l c18_5a c18_5b c18_5l c18_6a c18_6b c18_6l c18_7a c18_7b c18_7l c18_8a c18_8b c18_8l c18_9a c18_9b c18_9l c18_10a c18_10b c18_10l; obtain ⟨c19_0a, c19_0b, c19_0l⟩ := D19.out.at (b := w13.heap.size) (x := mf) (y := md) (by simp); obtain ⟨c19_1a, c19_1b, c19_1l⟩ := D19.out.at (b := w12.heap.size) (x := acf) (y := acd) (by simp); obtain ⟨c19_2a, c19_2b, c19_2l⟩ := D19.out.at (b := wa.heap.size) (x := af) (y := ad) (by simp); obtain ⟨c19_3a, c19_3b, c19_3l⟩ := D19.out.at (b := w10.heap.size) (x := xf) (y := xd) (by simp); obtain ⟨c19_4a, c19_4b, c19_4l⟩ := D19.out.at (b := w9.heap.size) (x := xf) (y := xd) (by simp); obtain ⟨c19_5a, c19_5b, c19_5l⟩ := D19.out.at (b := w8.heap.size) (x := bcf) (y := bcd) (by simp); obtain ⟨c19_6a, c19_6b, c19_6l⟩ := D19.out.at (b := w7.heap.size) (x := abf) (y := abd) (by simp); obtain ⟨c19_7a, c19_7b, c19_7l⟩ := D19.out.at (b := w6.heap.size) (x := abf) (y := abd) (by simp); obtain ⟨c19_8a, c19_8b, c19_8l⟩ := D19.out.at (b := w.heap.size) (x := af) (y := ad) (by simp); obtain ⟨c19_9a, c19_9b, c19_9l⟩ := D19.out.at (b := w.heap.size + 1) (x := bf) (y := bd) (by simp); obtain ⟨c19_10a, c19_10b, c19_10l⟩ := D19.out.at (b := w.heap.size + 1 + 1) (x := cf) (y := cd) (by simp); clear hb)
        | (clear TK17; go_at_call 19; refine (F7.out _ R19.out).mono ?_; rintro e w20 ⟨rfl, hb⟩; have D20 := Lib.hid (D19.out.later hb); have B20 := Lib.hid (B19.out.trans (hb.mono B19.out.size)); have R20 := Lib.hid (R19.out.below hb); clear c19_0a c19_0b c19_0l c19_1a c19_1b c19_1l c19_2a c19_2b c19_2l c19_3a c19_3b c19_3l c19_4a c19_4b c19_4l c19_5a c19_5b c19_5l c19_6a c19_6b c19_6l c19_7a c19_7b c19_7l c19_8a c19_8b c19_8l c19_9a c19_9b c19_9l c19_10a c19_10b c19_10l; obtain ⟨c20_0a, c20_0b, c20_0l⟩ := D20.out.at (b := w13.heap.size) (x := mf) (y := md) (by simp); obtain ⟨c20_1a, c20_1b, c20_1l⟩ := D20.out.at (b := w12.heap.size) (x := acf) (y := acd) (by simp); obtain ⟨c20_2a, c20_2b, c20_2l⟩ := D20.out.at (b := wa.heap.size) (x := af) (y := ad) (by simp); obtain ⟨c20_3a, c20_3b, c20_3l⟩ := D20.out.at (b := w10.heap.size) (x := xf) (y := xd) (by simp); obtain ⟨c20_4a, c20_4b, c20_4l⟩ := D20.out.at (b := w9.heap.size) (x := xf) (y := xd) (by simp); obtain ⟨c20_5a, c20_5b, c20_5l⟩ := D20.out.at (b := w8.heap.size) (x := bcf) (y := bcd) (by simp); obtain ⟨c20_6a, c20_6b, c20_6l⟩ := D20.out.at (b := w7.heap.size) (x := abf) (y := abd) (by simp); obtain ⟨c20_7a, c20_7b, c20_7l⟩ := D20.out.at (b := w6.heap.size) (x := abf) (y := abd) (by simp); obtain ⟨c20_8a, c20_8b, c20_8l⟩ := D20.out.at (b := w.heap.size) (x := af) (y := ad) (by simp); obtain ⟨c20_9a, c20_9b, c20_9l⟩ := D20.out.at (b := w.heap.size + 1) (x := bf) (y := bd) (by simp); obtain ⟨c20_10a, c20_10b, c20_10l⟩ := D20.out.at (b := w.heap.size + 1 + 1) (x := cf) (y := cd) (by simp); clear hb))
      all_goals first
        | (go_ret; exact ⟨rfl, B20.out⟩)
        | trace_state
    · gi_wp2
      have HA := Lib.hid (below_alloc HN.out (.cells #[.string ⟨#[]⟩, .string ⟨#[]⟩] 24))
      have KN := Lib.hid (Blk.new wn 24 #[.string ⟨#[]⟩, .string ⟨#[]⟩])
      have HLE := Lib.hid HN.out.size
      generalize wn.alloc (.cells #[.string ⟨#[]⟩, .string ⟨#[]⟩] 24) = W1 at *
      refine stage_post (isSame_below HA.out (fun k hk => hk)) ?_
      refine stage_one 2 (by kernel_rfl) rfl ?_
      gi_wp2
      refine ⟨trivial, ?_⟩
      refine (callsIn_wide.2 (PZ.out _ (RF.out.below HA.out))).mono ?_
      rintro e wa ⟨rfl, hb⟩
      have HA2 := Lib.hid (HA.out.trans (hb.mono HA.out.size))
      have KA := Lib.hid (KN.out.below hb KN.out.lt)
      clear hb
      gi_wp2
      refine stage_post (isSame_below HA2.out (fun k hk => hk)) ?_
      change wpStage _ _ _ _ _ _ _ _ (2 + 3) _ _ _
      refine stage_reads [3, 4, 5] 2 _ _ (by kernel_rfl) ?_
      change wpQuietIn _ _ _ _ (fun W' => ∃ x : SameAt WF (fun k => k < WF.heap.size), W' = x.W) _ _ _
      simp only [pick_cons, pick_nil, List.getElem?_cons_zero, List.getElem?_cons_succ, Option.elim_some]
      repeat (gi_big_quiet_step (fail))
      refine wpQuietIn_nil ?_
      obtain ⟨r0, r1⟩ := cells2 KA.out
      have z0 := KA.out.frozen 0
      have z1 := KA.out.frozen 1
      have zl := KA.out.lt
      refine stage_one 7 (by kernel_rfl) rfl ?_
      gi_wp2
      have HZ := Lib.hid (show Below WF.heap.size WF ((wa.setCell ⟨wn.heap.size, 0, none⟩ (.string af)).setCell ⟨wn.heap.size, 1, none⟩ (.string ad)) from ((HA2.out).setCell HLE.out _).setCell HLE.out _)
      have KZ := Lib.hid ((KA.out.set_ 0 (.string af)).set_ 1 (.string ad))
      clear r0 r1 z0 z1 zl
      refine stage_post (isSame_below HZ.out (fun k hk => hk)) ?_
      refine stage_one 8 (by kernel_rfl) rfl ?_
      gi_wp2
      refine stage_post (isSame_below HZ.out (fun k hk => hk)) ?_
      refine stage_done (by kernel_rfl) ?_
      have DK := Lib.hid (Held.cons (DF.out.later HZ.out) KZ.out)
      have BK := Lib.hid (BF.out.trans (HZ.out.mono BF.out.size))
      have RK := Lib.hid (RF.out.below HZ.out)
      generalize (wa.setCell ⟨wn.heap.size, 0, none⟩ (.string af)).setCell ⟨wn.heap.size, 1, none⟩ (.string ad) = WZ at *
      clear HZ KZ HLE
      have D11 := DK
      have B11 := BK
      have R11 := RK
      clear DK BK RK
      obtain ⟨cz_0a, cz_0b, cz_0l⟩ := D11.out.at (b := wn.heap.size) (x := af) (y := ad) (by simp)
      obtain ⟨cz_1a, cz_1b, cz_1l⟩ := D11.out.at (b := w10.heap.size) (x := xf) (y := xd) (by simp)
      obtain ⟨cz_2a, cz_2b, cz_2l⟩ := D11.out.at (b := w9.heap.size) (x := xf) (y := xd) (by simp)
      obtain ⟨cz_3a, cz_3b, cz_3l⟩ := D11.out.at (b := w8.heap.size) (x := bcf) (y := bcd) (by simp)
      obtain ⟨cz_4a, cz_4b, cz_4l⟩ := D11.out.at (b := w7.heap.size) (x := abf) (y := abd) (by simp)
      obtain ⟨cz_5a, cz_5b, cz_5l⟩ := D11.out.at (b := w6.heap.size) (x := abf) (y := abd) (by simp)
      obtain ⟨cz_6a, cz_6b, cz_6l⟩ := D11.out.at (b := w.heap.size) (x := af) (y := ad) (by simp)
      obtain ⟨cz_7a, cz_7b, cz_7l⟩ := D11.out.at (b := w.heap.size + 1) (x := bf) (y := bd) (by simp)
      obtain ⟨cz_8a, cz_8b, cz_8l⟩ := D11.out.at (b := w.heap.size + 1 + 1) (x := cf) (y := cd) (by simp)
      have TK10 : True := trivial
      have TK11 : True := trivial
      have TK12 : True := trivial
      have TK13 : True := trivial
      have TK14 : True := trivial
      have TK15 : True := trivial
      have TK16 : True := trivial
      have TK17 : True := trivial
      go_wp2_with (first
        | (clear TK10; go_at_call 15; refine (PAC.out _ R11.out).mono ?_; rintro e w12 ⟨rfl, hb⟩; have D12 := Lib.hid (D11.out.later hb); have B12 := Lib.hid (B11.out.trans (hb.mono B11.out.size)); have R12 := Lib.hid (R11.out.below hb); obtain ⟨c12_0a, c12_0b, c12_0l⟩ := D12.out.at (b := wn.heap.size) (x := af) (y := ad) (by simp); obtain ⟨c12_1a, c12_1b, c12_1l⟩ := D12.out.at (b := w10.heap.size) (x := xf) (y := xd) (by simp); obtain ⟨c12_2a, c12_2b, c12_2l⟩ := D12.out.at (b := w9.heap.size) (x := xf) (y := xd) (by simp); obtain ⟨c12_3a, c12_3b, c12_3l⟩ := D12.out.at (b := w8.heap.size) (x := bcf) (y := bcd) (by simp); obtain ⟨c12_4a, c12_4b, c12_4l⟩ := D12.out.at (b := w7.heap.size) (x := abf) (y := abd) (by simp); obtain ⟨c12_5a, c12_5b, c12_5l⟩ := D12.out.at (b := w6.heap.size) (x := abf) (y := abd) (by simp); obtain ⟨c12_6a, c12_6b, c12_6l⟩ := D12.out.at (b := w.heap.size) (x := af) (y := ad) (by simp); obtain ⟨c12_7a, c12_7b, c12_7l⟩ := D12.out.at (b := w.heap.size + 1) (x := bf) (y := bd) (by simp); obtain ⟨c12_8a, c12_8b, c12_8l⟩ := D12.out.at (b := w.heap.size + 1 + 1) (x := cf) (y := cd) (by simp); clear hb)
        | (go_at_call 17; refine (PM.out _ (R12.out.below (below_alloc (Below.refl _ _) _))).mono ?_; rintro e w13 ⟨rfl, hb⟩; have D13 := Lib.hid (Held.later (D12.out.push acf acd) hb); have B13 := Lib.hid ((below_alloc B12.out (.cells #[.string acf, .string acd] 24)).trans (hb.mono (below_alloc B12.out (.cells #[.string acf, .string acd] 24)).size)); have R13 := Lib.hid (Res.below (R12.out.below (below_alloc (Below.refl _ _) (.cells #[.string acf, .string acd] 24))) hb); clear c12_0a c12_0b c12_0l c12_1a c12_1b c12_1l c12_2a c12_2b c12_2l c12_3a c12_3b c12_3l c12_4a c12_4b c12_4l c12_5a c12_5b c12_5l c12_6a c12_6b c12_6l c12_7a c12_7b c12_7l c12_8a c12_8b c12_8l; obtain ⟨c13_0a, c13_0b, c13_0l⟩ := D13.out.at (b := w12.heap.size) (x := acf) (y := acd) (by simp); obtain ⟨c13_1a, c13_1b, c13_1l⟩ := D13.out.at (b := wn.heap.size) (x := af) (y := ad) (by simp); obtain ⟨c13_2a, c13_2b, c13_2l⟩ := D13.out.at (b := w10.heap.size) (x := xf) (y := xd) (by simp); obtain ⟨c13_3a, c13_3b, c13_3l⟩ := D13.out.at (b := w9.heap.size) (x := xf) (y := xd) (by simp); obtain ⟨c13_4a, c13_4b, c13_4l⟩ := D13.out.at (b := w8.heap.size) (x := bcf) (y := bcd) (by simp); obtain ⟨c13_5a, c13_5b, c13_5l⟩ := D13.out.at (b := w7.heap.size) (x := abf) (y := abd) (by simp); obtain ⟨c13_6a, c13_6b, c13_6l⟩ := D13.out.at (b := w6.heap.size) (x := abf) (y := abd) (by simp); obtain ⟨c13_7a, c13_7b, c13_7l⟩ := D13.out.at (b := w.heap.size) (x := af) (y := ad) (by simp); obtain ⟨c13_8a, c13_8b, c13_8l⟩ := D13.out.at (b := w.heap.size + 1) (x := bf) (y := bd) (by simp); obtain ⟨c13_9a, c13_9b, c13_9l⟩ := D13.out.at (b := w.heap.size + 1 + 1) (x := cf) (y := cd) (by simp); clear hb)
        | (clear TK11; go_at_call 19; refine (F1.out _ (R13.out.below (below_alloc (Below.refl _ _) _))).mono ?_; rintro e w14 ⟨rfl, hb⟩; have D14 := Lib.hid (Held.later (D13.out.push mf md) hb); have B14 := Lib.hid ((below_alloc B13.out (.cells #[.string mf, .string md] 24)).trans (hb.mono (below_alloc B13.out (.cells #[.string mf, .string md] 24)).size)); have R14 := Lib.hid (Res.below (R13.out.below (below_alloc (Below.refl _ _) (.cells #[.string mf, .string md] 24))) hb); clear c13_0a c13_0b c13_0l c13_1a c13_1b c13_1l c13_2a c13_2b c13_2l c13_3a c13_3b c13_3l c13_4a c13_4b c13_4l c13_5a c13_5b c13_5l c13_6a c13_6b c13_6l c13_7a c13_7b c13_7l c13_8a c13_8b c13_8l c13_9a c13_9b c13_9l; obtain ⟨c14_0a, c14_0b, c14_0l⟩ := D14.out.at (b := w13.heap.size) (x := mf) (y := md) (by simp); obtain ⟨c14_1a, c14_1b, c14_1l⟩ := D14.out.at (b := w12.heap.size) (x := acf) (y := acd) (by simp); obtain ⟨c14_2a, c14_2b, c14_2l⟩ := D14.out.at (b := wn.heap.size) (x := af) (y := ad) (by simp); obtain ⟨c14_3a, c14_3b, c14_3l⟩ := D14.out.at (b := w10.heap.size) (x := xf) (y := xd) (by simp); obtain ⟨c14_4a, c14_4b, c14_4l⟩ := D14.out.at (b := w9.heap.size) (x := xf) (y := xd) (by simp); obtain ⟨c14_5a, c14_5b, c14_5l⟩ := D14.out.at (b := w8.heap.size) (x := bcf) (y := bcd) (by simp); obtain ⟨c14_6a, c14_6b, c14_6l⟩ := D14.out.at (b := w7.heap.size) (x := abf) (y := abd) (by simp); obtain ⟨c14_7a, c14_7b, c14_7l⟩ := D14.out.at (b := w6.heap.size) (x := abf) (y := abd) (by simp); obtain ⟨c14_8a, c14_8b, c14_8l⟩ := D14.out.at (b := w.heap.size) (x := af) (y := ad) (by simp); obtain ⟨c14_9a, c14_9b, c14_9l⟩ := D14.out.at (b := w.heap.size + 1) (x := bf) (y := bd) (by simp); obtain ⟨c14_10a, c14_10b, c14_10l⟩ := D14.out.at (b := w.heap.size + 1 + 1) (x := cf) (y := cd) (by simp); clear hb)
        | (clear TK12; go_at_call 19; refine (F2.out _ R14.out).mono ?_; rintro e w15 ⟨rfl, hb⟩; have D15 := Lib.hid (D14.out.later hb); have B15 := Lib.hid (B14.out.trans (hb.mono B14.out.size)); have R15 := Lib.hid (R14.out.below hb); clear c14_0a c14_0b c14_0l c14_1a c14_1b c14_1l c14_2a c14_2b c14_2l c14_3a c14_3b c14_3l c14_4a c14_4b c14_4l c14_5a c14_5b c14_5l c14_6a c14_6b c14_6l c14_7a c14_7b c14_7l c14_8a c14_8b c14_8l c14_9a c14_9b c14_9l c14_10a c14_10b c14_10l; obtain ⟨c15_0a, c15_0b, c15_0l⟩ := D15.out.at (b := w13.heap.size) (x := mf) (y := md) (by simp); obtain ⟨c15_1a, c15_1b, c15_1l⟩ := D15.out.at (b := w12.heap.size) (x := acf) (y := acd) (by simp); obtain ⟨c15_2a, c15_2b, c15_2l⟩ := D15.out.at (b := wn.heap.size) (x := af) (y := ad) (by simp); obtain ⟨c15_3a, c15_3b, c15_3l⟩ := D15.out.at (b := w10.heap.size) (x := xf) (y := xd) (by simp); obtain ⟨c15_4a, c15_4b, c15_4l⟩ := D15.out.at (b := w9.heap.size) (x := xf) (y := xd) (by simp); obtain ⟨c15_5a, c15_5b, c15_5l⟩ := D15.out.at (b := w8.heap.size) (x := bcf) (y := bcd) (by simp); obtain ⟨c15_6a, c15_6b, c15_6l⟩ := D15.out.at (b := w7.heap.size) (x := abf) (y := abd) (by simp); obtain ⟨c15_7a, c15_7b, c15_7l⟩ := D15.out.at (b := w6.heap.size) (x := abf) (y := abd) (by simp); obtain ⟨c15_8a, c15_8b, c15_8l⟩ := D15.out.at (b := w.heap.size) (x := af) (y := ad) (by simp); obtain ⟨c15_9a, c15_9b, c15_9l⟩ := D15.out.at (b := w.heap.size + 1) (x := bf) (y := bd) (by simp); obtain ⟨c15_10a, c15_10b, c15_10l⟩ := D15.out.at (b := w.heap.size + 1 + 1) (x := cf) (y := cd) (by simp); clear hb)
        | (clear TK13; go_at_call 19; refine (F3.out _ R15.out).mono ?_; rintro e w16 ⟨rfl, hb⟩; have D16 := Lib.hid (D15.out.later hb); have B16 := Lib.hid (B15.out.trans (hb.mono B15.out.size)); have R16 := Lib.hid (R15.out.below hb); clear c15_0a c15_0b c15_0l c15_1a c15_1b c15_1l c15_2a c15_2b c15_2l c15_3a c15_3b c15_3l c15_4a c15_4b c15_4l c15_5a c15_5b c15_5l c15_6a c15_6b c15_6l c15_7a c15_7b c15_7l c15_8a c15_8b c15_8l c15_9a c15_9b c15_9l c15_10a c15_10b c15_10l; obtain ⟨c16_0a, c16_0b, c16_0l⟩ := D16.out.at (b := w13.heap.size) (x := mf) (y := md) (by simp); obtain ⟨c16_1a, c16_1b, c16_1l⟩ := D16.out.at (b := w12.heap.size) (x := acf) (y := acd) (by simp); obtain ⟨c16_2a, c16_2b, c16_2l⟩ := D16.out.at (b := wn.heap.size) (x := af) (y := ad) (by simp); obtain ⟨c16_3a, c16_3b, c16_3l⟩ := D16.out.at (b := w10.heap.size) (x := xf) (y := xd) (by simp); obtain ⟨c16_4a, c16_4b, c16_4l⟩ := D16.out.at (b := w9.heap.size) (x := xf) (y := xd) (by simp); obtain ⟨c16_5a, c16_5b, c16_5l⟩ := D16.out.at (b := w8.heap.size) (x := bcf) (y := bcd) (by simp); obtain ⟨c16_6a, c16_6b, c16_6l⟩ := D16.out.at (b := w7.heap.size) (x := abf) (y := abd) (by simp); obtain ⟨c16_7a, c16_7b, c16_7l⟩ := D16.out.at (b := w6.heap.size) (x := abf) (y := abd) (by simp); obtain ⟨c16_8a, c16_8b, c16_8l⟩ := D16.out.at (b := w.heap.size) (x := af) (y := ad) (by simp); obtain ⟨c16_9a, c16_9b, c16_9l⟩ := D16.out.at (b := w.heap.size + 1) (x := bf) (y := bd) (by simp); obtain ⟨c16_10a, c16_10b, c16_10l⟩ := D16.out.at (b := w.heap.size + 1 + 1) (x := cf) (y := cd) (by simp); clear hb)
        | (clear TK14; go_at_call 19; refine (F4.out _ R16.out).mono ?_; rintro e w17 ⟨rfl, hb⟩; have D17 := Lib.hid (D16.out.later hb); have B17 := Lib.hid (B16.out.trans (hb.mono B16.out.size)); have R17 := Lib.hid (R16.out.below hb); clear c16_0a c16_0b c16_0l c16_1a c16_1b c16_1l c16_2a c16_2b c16_2l c16_3a c16_3b c16_3l c16_4a c16_4b c16_4l c16_5a c16_5b c16_5l c16_6a c16_6b c16_6l c16_7a c16_7b c16_7l c16_8a c16_8b c16_8l c16_9a c16_9b c16_9l c16_10a c16_10b c16_10l; obtain ⟨c17_0a, c17_0b, c17_0l⟩ := D17.out.at (b := w13.heap.size) (x := mf) (y := md) (by simp); obtain ⟨c17_1a, c17_1b, c17_1l⟩ := D17.out.at (b := w12.heap.size) (x := acf) (y := acd) (by simp); obtain ⟨c17_2a, c17_2b, c17_2l⟩ := D17.out.at (b := wn.heap.size) (x := af) (y := ad) (by simp); obtain ⟨c17_3a, c17_3b, c17_3l⟩ := D17.out.at (b := w10.heap.size) (x := xf) (y := xd) (by simp); obtain ⟨c17_4a, c17_4b, c17_4l⟩ := D17.out.at (b := w9.heap.size) (x := xf) (y := xd) (by simp); obtain ⟨c17_5a, c17_5b, c17_5l⟩ := D17.out.at (b := w8.heap.size) (x := bcf) (y := bcd) (by simp); obtain ⟨c17_6a, c17_6b, c17_6l⟩ := D17.out.at (b := w7.heap.size) (x := abf) (y := abd) (by simp); obtain ⟨c17_7a, c17_7b, c17_7l⟩ := D17.out.at (b := w6.heap.size) (x := abf) (y := abd) (by simp); obtain ⟨c17_8a, c17_8b, c17_8l⟩ := D17.out.at (b := w.heap.size) (x := af) (y := ad) (by simp); obtain ⟨c17_9a, c17_9b, c17_9l⟩ := D17.out.at (b := w.heap.size + 1) (x := bf) (y := bd) (by simp); obtain ⟨c17_10a, c17_10b, c17_10l⟩ := D17.out.at (b := w.heap.size + 1 + 1) (x := cf) (y := cd) (by simp); clear hb)
        | (clear TK15; go_at_call 19; refine (F5.out _ R17.out).mono ?_; rintro e w18 ⟨rfl, hb⟩; have D18 := Lib.hid (D17.out.later hb); have B18 := Lib.hid (B17.out.trans (hb.mono B17.out.size)); have R18 := Lib.hid (R17.out.below hb); clear c17_0a c17_0b c17_0l c17_1a c17_1b c17_1l c17_2a c17_2b c17_2l c17_3a c17_3b c17_3l c17_4a c17_4b c17_4l c17_5a c17_5b c17_5l c17_6a c17_6b c17_6l c17_7a c17_7b c17_7l c17_8a c17_8b c17_8l c17_9a c17_9b c17_9l c17_10a c17_10b c17_10l; obtain ⟨c18_0a, c18_0b, c18_0l⟩ := D18.out.at (b := w13.heap.size) (x := mf) (y := md) (by simp); obtain ⟨c18_1a, c18_1b, c18_1l⟩ := D18.out.at (b := w12.heap.size) (x := acf) (y := acd) (by simp); obtain ⟨c18_2a, c18_2b, c18_2l⟩ := D18.out.at (b := wn.heap.size) (x := af) (y := ad) (by simp); obtain ⟨c18_3a, c18_3b, c18_3l⟩ := D18.out.at (b := w10.heap.size) (x := xf) (y := xd) (by simp); obtain ⟨c18_4a, c18_4b, c18_4l⟩ := D18.out.at (b := w9.heap.size) (x := xf) (y := xd) (by simp); obtain ⟨c18_5a, c18_5b, c18_5l⟩ := D18.out.at (b := w8.heap.size) (x := bcf) (y := bcd) (by simp); obtain ⟨c18_6a, c18_6b, c18_6l⟩ := D18.out.at (b := w7.heap.size) (x := abf) (y := abd) (by simp); obtain ⟨c18_7a, c18_7b, c18_7l⟩ := D18.out.at (b := w6.heap.size) (x := abf) (y := abd) (by simp); obtain ⟨c18_8a, c18_8b, c18_8l⟩ := D18.out.at (b := w.heap.size) (x := af) (y := ad) (by simp); obtain ⟨c18_9a, c18_9b, c18_9l⟩ := D18.out.at (b := w.heap.size + 1) (x := bf) (y := bd) (by simp); obtain ⟨c18_10a, c18_10b, c18_10l⟩ := D18.out.at (b := w.heap.size + 1 + 1) (x := cf) (y := cd) (by simp); clear hb)
        | (clear TK16; go_at_call 19; refine (F6.out _ R18.out).mono ?_; rintro e w19 ⟨rfl, hb⟩; have D19 := Lib.hid (D18.out.later hb); have B19 := Lib.hid (B18.out.trans (hb.mono B18.out.size)); have R19 := Lib.hid (R18.out.below hb); clear c18_0a c18_0b c18_0l c18_1a c18_1b c18_1l c18_2a c18_2b c18_2l c18_3a c18_3b c18_3l c18_4a c18_4b c18_4l c18_5a c18_5b c18_5l c18_6a c18_6b c18_6l c18_7a c18_7b c18_7l c18_8a c18_8b c18_8l c18_9a c18_9b c18_9l c18_10a c18_10b c18_10l; obtain ⟨c19_0a, c19_0b, c19_0l⟩ := D19.out.at (b := w13.heap.size) (x := mf) (y := md) (by simp); obtain ⟨c19_1a, c19_1b, c19_1l⟩ := D19.out.at (b := w12.heap.size) (x := acf) (y := acd) (by simp); obtain ⟨c19_2a, c19_2b, c19_2l⟩ := D19.out.at (b := wn.heap.size) (x := af) (y := ad) (by simp); obtain ⟨c19_3a, c19_3b, c19_3l⟩ := D19.out.at (b := w10.heap.size) (x := xf) (y := xd) (by simp); obtain ⟨c19_4a, c19_4b, c19_4l⟩ := D19.out.at (b := w9.heap.size) (x := xf) (y := xd) (by simp); obtain ⟨c19_5a, c19_5b, c19_5l⟩ := D19.out.at (b := w8.heap.size) (x := bcf) (y := bcd) (by simp); obtain ⟨c19_6a, c19_6b, c19_6l⟩ := D19.out.at (b := w7.heap.size) (x := abf) (y := abd) (by simp); obtain ⟨c19_7a, c19_7b, c19_7l⟩ := D19.out.at (b := w6.heap.size) (x := abf) (y := abd) (by simp); obtain ⟨c19_8a, c19_8b, c19_8l⟩ := D19.out.at (b := w.heap.size) (x := af) (y := ad) (by simp); obtain ⟨c19_9a, c19_9b, c19_9l⟩ := D19.out.at (b := w.heap.size + 1) (x := bf) (y := bd) (by simp); obtain ⟨c19_10a, c19_10b, c19_10l⟩ := D19.out.at (b := w.heap.size + 1 + 1) (x := cf) (y := cd) (by simp); clear hb)
        | (clear TK17; go_at_call 19; refine (F7.out _ R19.out).mono ?_; rintro e w20 ⟨rfl, hb⟩; have D20 := Lib.hid (D19.out.later hb); have B20 := Lib.hid (B19.out.trans (hb.mono B19.out.size)); have R20 := Lib.hid (R19.out.below hb); clear c19_0a c19_0b c19_0l c19_1a c19_1b c19_1l c19_2a c19_2b c19_2l c19_3a c19_3b c19_3l c19_4a c19_4b c19_4l c19_5a c19_5b c19_5l c19_6a c19_6b c19_6l c19_7a c19_7b c19_7l c19_8a c19_8b c19_8l c19_9a c19_9b c19_9l c19_10a c19_10b c19_10l; obtain ⟨c20_0a, c20_0b, c20_0l⟩ := D20.out.at (b := w13.heap.size) (x := mf) (y := md) (by simp); obtain ⟨c20_1a, c20_1b, c20_1l⟩ := D20.out.at (b := w12.heap.size) (x := acf) (y := acd) (by simp); obtain ⟨c20_2a, c20_2b, c20_2l⟩ := D20.out.at (b := wn.heap.size) (x := af) (y := ad) (by simp); obtain ⟨c20_3a, c20_3b, c20_3l⟩ := D20.out.at (b := w10.heap.size) (x := xf) (y := xd) (by simp); obtain ⟨c20_4a, c20_4b, c20_4l⟩ := D20.out.at (b := w9.heap.size) (x := xf) (y := xd) (by simp); obtain ⟨c20_5a, c20_5b, c20_5l⟩ := D20.out.at (b := w8.heap.size) (x := bcf) (y := bcd) (by simp); obtain ⟨c20_6a, c20_6b, c20_6l⟩ := D20.out.at (b := w7.heap.size) (x := abf) (y := abd) (by simp); obtain ⟨c20_7a, c20_7b, c20_7l⟩ := D20.out.at (b := w6.heap.size) (x := abf) (y := abd) (by simp); obtain ⟨c20_8a, c20_8b, c20_8l⟩ := D20.out.at (b := w.heap.size) (x := af) (y := ad) (by simp); obtain ⟨c20_9a, c20_9b, c20_9l⟩ := D20.out.at (b := w.heap.size + 1) (x := bf) (y := bd) (by simp); obtain ⟨c20_10a, c20_10b, c20_10l⟩ := D20.out.at (b := w.heap.size + 1 + 1) (x := cf) (y := cd) (by simp); clear hb))
      all_goals first
        | (go_ret; exact ⟨rfl, B20.out⟩)
        | trace_state
  · gi_wp2
    have HN := Lib.hid (below_drew (below_alloc (Below.refl WF.heap.size WF) (.cells #[.string ⟨#[]⟩, .string ⟨#[]⟩] 24)))
    have KN := Lib.hid (Blk.new WF 24 #[.string ⟨#[]⟩, .string ⟨#[]⟩]).drew
    have HLE := Lib.hid (Nat.le_refl WF.heap.size)
    generalize (WF.alloc (.cells #[.string ⟨#[]⟩, .string ⟨#[]⟩] 24)).drew = W1 at *
    refine stage_post (isSame_below HN.out (fun k hk => hk)) ?_
    refine stage_one 1 (by kernel_rfl) rfl ?_
    gi_wp2
    refine ⟨trivial, ?_⟩
    refine (callsIn_wide.2 (none_any _)).mono ?_
    rintro e wn ⟨rfl, hb⟩
    have HM := Lib.hid (HN.out.trans (hb.mono HN.out.size))
    have KM := Lib.hid (KN.out.below hb KN.out.lt)
    clear hb
    gi_wp2
    refine stage_post (isSame_below HM.out (fun k hk => hk)) ?_
    refine stage_one 2 (by kernel_rfl) rfl ?_
    gi_wp2
    refine ⟨trivial, ?_⟩
    refine (callsIn_wide.2 (PZ.out _ (RF.out.below HM.out))).mono ?_
    rintro e wa ⟨rfl, hb⟩
    have HA2 := Lib.hid (HM.out.trans (hb.mono HM.out.size))
    have KA := Lib.hid (KM.out.below hb KM.out.lt)
    clear hb
    gi_wp2
    refine stage_post (isSame_below HA2.out (fun k hk => hk)) ?_
    change wpStage _ _ _ _ _ _ _ _ (2 + 3) _ _ _
    refine stage_reads [3, 4, 5] 2 _ _ (by kernel_rfl) ?_
    change wpQuietIn _ _ _ _ (fun W' => ∃ x : SameAt WF (fun k => k < WF.heap.size), W' = x.W) _ _ _
    simp only [pick_cons, pick_nil, List.getElem?_cons_zero, List.getElem?_cons_succ, Option.elim_some]
    repeat (gi_big_quiet_step (fail))
    refine wpQuietIn_nil ?_
    obtain ⟨r0, r1⟩ := cells2 KA.out
    have z0 := KA.out.frozen 0
    have z1 := KA.out.frozen 1
    have zl := KA.out.lt
    refine stage_one 7 (by kernel_rfl) rfl ?_
    gi_wp2
    have HZ := Lib.hid (show Below WF.heap.size WF ((wa.setCell ⟨WF.heap.size, 0, none⟩ (.string af)).setCell ⟨WF.heap.size, 1, none⟩ (.string ad)) from ((HA2.out).setCell HLE.out _).setCell HLE.out _)
    have KZ := Lib.hid ((KA.out.set_ 0 (.string af)).set_ 1 (.string ad))
    clear r0 r1 z0 z1 zl
    refine stage_post (isSame_below HZ.out (fun k hk => hk)) ?_
    refine stage_one 8 (by kernel_rfl) rfl ?_
    gi_wp2
    refine stage_post (isSame_below HZ.out (fun k hk => hk)) ?_
    refine stage_done (by kernel_rfl) ?_
    have DK := Lib.hid (Held.cons (DF.out.later HZ.out) KZ.out)
    have BK := Lib.hid (BF.out.trans (HZ.out.mono BF.out.size))
    have RK := Lib.hid (RF.out.below HZ.out)
    generalize (wa.setCell ⟨WF.heap.size, 0, none⟩ (.string af)).setCell ⟨WF.heap.size, 1, none⟩ (.string ad) = WZ at *
    clear HZ KZ HLE
    have D11 := DK
    have B11 := BK
    have R11 := RK
    clear DK BK RK
    obtain ⟨cz_0a, cz_0b, cz_0l⟩ := D11.out.at (b := WF.heap.size) (x := af) (y := ad) (by simp)
    obtain ⟨cz_1a, cz_1b, cz_1l⟩ := D11.out.at (b := w10.heap.size) (x := xf) (y := xd) (by simp)
    obtain ⟨cz_2a, cz_2b, cz_2l⟩ := D11.out.at (b := w9.heap.size) (x := xf) (y := xd) (by simp)
    obtain ⟨cz_3a, cz_3b, cz_3l⟩ := D11.out.at (b := w8.heap.size) (x := bcf) (y := bcd) (by simp)
    obtain ⟨cz_4a, cz_4b, cz_4l⟩ := D11.out.at (b := w7.heap.size) (x := abf) (y := abd) (by simp)
    obtain ⟨cz_5a, cz_5b, cz_5l⟩ := D11.out.at (b := w6.heap.size) (x := abf) (y := abd) (by simp)
    obtain ⟨cz_6a, cz_6b, cz_6l⟩ := D11.out.at (b := w.heap.size) (x := af) (y := ad) (by simp)
    obtain ⟨cz_7a, cz_7b, cz_7l⟩ := D11.out.at (b := w.heap.size + 1) (x := bf) (y := bd) (by simp)
    obtain ⟨cz_8a, cz_8b, cz_8l⟩ := D11.out.at (b := w.heap.size + 1 + 1) (x := cf) (y := cd) (by simp)
    have TK10 : True := trivial
    have TK11 : True := trivial
    have TK12 : True := trivial
    have TK13 : True := trivial
    have TK14 : True := trivial
    have TK15 : True := trivial
    have TK16 : True := trivial
    have TK17 : True := trivial
    go_wp2_with (first
      | (clear TK10; go_at_call 15; refine (PAC.out _ R11.out).mono ?_; rintro e w12 ⟨rfl, hb⟩; have D12 := Lib.hid (D11.out.later hb); have B12 := Lib.hid (B11.out.trans (hb.mono B11.out.size)); have R12 := Lib.hid (R11.out.below hb); obtain ⟨c12_0a, c12_0b, c12_0l⟩ := D12.out.at (b := WF.heap.size) (x := af) (y := ad) (by simp); obtain ⟨c12_1a, c12_1b, c12_1l⟩ := D12.out.at (b := w10.heap.size) (x := xf) (y := xd) (by simp); obtain ⟨c12_2a, c12_2b, c12_2l⟩ := D12.out.at (b := w9.heap.size) (x := xf) (y := xd) (by simp); obtain ⟨c12_3a, c12_3b, c12_3l⟩ := D12.out.at (b := w8.heap.size) (x := bcf) (y := bcd) (by simp); obtain ⟨c12_4a, c12_4b, c12_4l⟩ := D12.out.at (b := w7.heap.size) (x := abf) (y := abd) (by simp); obtain ⟨c12_5a, c12_5b, c12_5l⟩ := D12.out.at (b := w6.heap.size) (x := abf) (y := abd) (by simp); obtain ⟨c12_6a, c12_6b, c12_6l⟩ := D12.out.at (b := w.heap.size) (x := af) (y := ad) (by simp); obtain ⟨c12_7a, c12_7b, c12_7l⟩ := D12.out.at (b := w.heap.size + 1) (x := bf) (y := bd) (by simp); obtain ⟨c12_8a, c12_8b, c12_8l⟩ := D12.out.at (b := w.heap.size + 1 + 1) (x := cf) (y := cd) (by simp); clear hb)
      | (go_at_call 17; refine (PM.out _ (R12.out.below (below_alloc (Below.refl _ _) _))).mono ?_; rintro e w13 ⟨rfl, hb⟩; have D13 := Lib.hid (Held.later (D12.out.push acf acd) hb); have B13 := Lib.hid ((below_alloc B12.out (.cells #[.string acf, .string acd] 24)).trans (hb.mono (below_alloc B12.out (.cells #[.string acf, .string acd] 24)).size)); have R13 := Lib.hid (Res.below (R12.out.below (below_alloc (Below.refl _ _) (.cells #[.string acf, .string acd] 24))) hb); clear c12_0a c12_0b c12_0l c12_1a c12_1b c12_1l c12_2a c12_2b c12_2l c12_3a c12_3b c12_3l c12_4a c12_4b c12_4l c12_5a c12_5b c12_5l c12_6a c12_6b c12_6l c12_7a c12_7b c12_7l c12_8a c12_8b c12_8l; obtain ⟨c13_0a, c13_0b, c13_0l⟩ := D13.out.at (b := w12.heap.size) (x := acf) (y := acd) (by simp); obtain ⟨c13_1a, c13_1b, c13_1l⟩ := D13.out.at (b := WF.heap.size) (x := af) (y := ad) (by simp); obtain ⟨c13_2a, c13_2b, c13_2l⟩ := D13.out.at (b := w10.heap.size) (x := xf) (y := xd) (by simp); obtain ⟨c13_3a, c13_3b, c13_3l⟩ := D13.out.at (b := w9.heap.size) (x := xf) (y := xd) (by simp); obtain ⟨c13_4a, c13_4b, c13_4l⟩ := D13.out.at (b := w8.heap.size) (x := bcf) (y := bcd) (by simp); obtain ⟨c13_5a, c13_5b, c13_5l⟩ := D13.out.at (b := w7.heap.size) (x := abf) (y := abd) (by simp); obtain ⟨c13_6a, c13_6b, c13_6l⟩ := D13.out.at (b := w6.heap.size) (x := abf) (y := abd) (by simp); obtain ⟨c13_7a, c13_7b, c13_7l⟩ := D13.out.at (b := w.heap.size) (x := af) (y := ad) (by simp); obtain ⟨c13_8a, c13_8b, c13_8l⟩ := D13.out.at (b := w.heap.size + 1) (x := bf) (y := bd) (by simp); obtain ⟨c13_9a, c13_9b, c13_9l⟩ := D13.out.at (b := w.heap.size + 1 + 1) (x := cf) (y := cd) (by simp); clear hb)
      | (clear TK11; go_at_call 19; refine (F1.out _ (R13.out.below (below_alloc (Below.refl _ _) _))).mono ?_; rintro e w14 ⟨rfl, hb⟩; have D14 := Lib.hid (Held.later (D13.out.push mf md) hb); have B14 := Lib.hid ((below_alloc B13.out (.cells #[.string mf, .string md] 24)).trans (hb.mono (below_alloc B13.out (.cells #[.string mf, .string md] 24)).size)); have R14 := Lib.hid (Res.below (R13.out.below (below_alloc (Below.refl _ _) (.cells #[.string mf, .string md] 24))) hb); clear c13_0a c13_0b c13_0l c13_1a c13_1b c13_1l c13_2a c13_2b c13_2l c13_3a c13_3b c13_3l c13_4a c13_4b c13_4l c13_5a c13_5b c13_5l c13_6a c13_6b c13_6l c13_7a c13_7b c13_7l c13_8a c13_8b c13_8l c13_9a c13_9b c13_9l; obtain ⟨c14_0a, c14_0b, c14_0l⟩ := D14.out.at (b := w13.heap.size) (x := mf) (y := md) (by simp); obtain ⟨c14_1a, c14_1b, c14_1l⟩ := D14.out.at (b := w12.heap.size) (x := acf) (y := acd) (by simp); obtain ⟨c14_2a, c14_2b, c14_2l⟩ := D14.out.at (b := WF.heap.size) (x := af) (y := ad) (by simp); obtain ⟨c14_3a, c14_3b, c14_3l⟩ := D14.out.at (b := w10.heap.size) (x := xf) (y := xd) (by simp); obtain ⟨c14_4a, c14_4b, c14_4l⟩ := D14.out.at (b := w9.heap.size) (x := xf) (y := xd) (by simp); obtain ⟨c14_5a, c14_5b, c14_5l⟩ := D14.out.at (b := w8.heap.size) (x := bcf) (y := bcd) (by simp); obtain ⟨c14_6a, c14_6b, c14_6l⟩ := D14.out.at (b := w7.heap.size) (x := abf) (y := abd) (by simp); obtain ⟨c14_7a, c14_7b, c14_7l⟩ := D14.out.at (b := w6.heap.size) (x := abf) (y := abd) (by simp); obtain ⟨c14_8a, c14_8b, c14_8l⟩ := D14.out.at (b := w.heap.size) (x := af) (y := ad) (by simp); obtain ⟨c14_9a, c14_9b, c14_9l⟩ := D14.out.at (b := w.heap.size + 1) (x := bf) (y := bd) (by simp); obtain ⟨c14_10a, c14_10b, c14_10l⟩ := D14.out.at (b := w.heap.size + 1 + 1) (x := cf) (y := cd) (by simp); clear hb)
      | (clear TK12; go_at_call 19; refine (F2.out _ R14.out).mono ?_; rintro e w15 ⟨rfl, hb⟩; have D15 := Lib.hid (D14.out.later hb); have B15 := Lib.hid (B14.out.trans (hb.mono B14.out.size)); have R15 := Lib.hid (R14.out.below hb); clear c14_0a c14_0b c14_0l c14_1a c14_1b c14_1l c14_2a c14_2b c14_2l c14_3a c14_3b c14_3l c14_4a c14_4b c14_4l c14_5a c14_5b c14_5l c14_6a c14_6b c14_6l c14_7a c14_7b c14_7l c14_8a c14_8b c14_8l c14_9a c14_9b c14_9l c14_10a c14_10b c14_10l; obtain ⟨c15_0a, c15_0b, c15_0l⟩ := D15.out.at (b := w13.heap.size) (x := mf) (y := md) (by simp); obtain ⟨c15_1a, c15_1b, c15_1l⟩ := D15.out.at (b := w12.heap.size) (x := acf) (y := acd) (by simp); obtain ⟨c15_2a, c15_2b, c15_2l⟩ := D15.out.at (b := WF.heap.size) (x := af) (y := ad) (by simp); obtain ⟨c15_3a, c15_3b, c15_3l⟩ := D15.out.at (b := w10.heap.size) (x := xf) (y := xd) (by simp); obtain ⟨c15_4a, c15_4b, c15_4l⟩ := D15.out.at (b := w9.heap.size) (x := xf) (y := xd) (by simp); obtain ⟨c15_5a, c15_5b, c15_5l⟩ := D15.out.at (b := w8.heap.size) (x := bcf) (y := bcd) (by simp); obtain ⟨c15_6a, c15_6b, c15_6l⟩ := D15.out.at (b := w7.heap.size) (x := abf) (y := abd) (by simp); obtain ⟨c15_7a, c15_7b, c15_7l⟩ := D15.out.at (b := w6.heap.size) (x := abf) (y := abd) (by simp); obtain ⟨c15_8a, c15_8b, c15_8l⟩ := D15.out.at (b := w.heap.size) (x := af) (y := ad) (by simp); obtain ⟨c15_9a, c15_9b, c15_9l⟩ := D15.out.at (b := w.heap.size + 1) (x := bf) (y := bd) (by simp); obtain ⟨c15_10a, c15_10b, c15_10l⟩ := D15.out.at (b := w.heap.size + 1 + 1) (x := cf) (y := cd) (by simp); clear hb)
      | (clear TK13; go_at_call 19; refine (F3.out _ R15.out).mono ?_; rintro e w16 ⟨rfl, hb⟩; have D16 := Lib.hid (D15.out.later hb); have B16 := Lib.hid (B15.out.trans (hb.mono B15.out.size)); have R16 := Lib.hid (R15.out.below hb); clear c15_0a c15_0b c15_0l c15_1a c15_1b c15_1l c15_2a c15_2b c15_2l c15_3a c15_3b c15_3l c15_4a c15_4b c15_4l c15_5a c15_5b c15_5l c15_6a c15_6b c15_6l c15_7a c15_7b c15_7l c15_8a c15_8b c15_8l c15_9a c15_9b c15_9l c15_10a c15_10b c15_10l; obtain ⟨c16_0a, c16_0b, c16_0l⟩ := D16.out.at (b := w13.heap.size) (x := mf) (y := md) (by simp); obtain ⟨c16_1a, c16_1b, c16_1l⟩ := D16.out.at (b := w12.heap.size) (x := acf) (y := acd) (by simp); obtain ⟨c16_2a, c16_2b, c16_2l⟩ := D16.out.at (b := WF.heap.size) (x := af) (y := ad) (by simp); obtain ⟨c16_3a, c16_3b, c16_3l⟩ := D16.out.at (b := w10.heap.size) (x := xf) (y := xd) (by simp); obtain ⟨c16_4a, c16_4b, c16_4l⟩ := D16.out.at (b := w9.heap.size) (x := xf) (y := xd) (by simp); obtain ⟨c16_5a, c16_5b, c16_5l⟩ := D16.out.at (b := w8.heap.size) (x := bcf) (y := bcd) (by simp); obtain ⟨c16_6a, c16_6b, c16_6l⟩ := D16.out.at (b := w7.heap.size) (x := abf) (y := abd) (by simp); obtain ⟨c16_7a, c16_7b, c16_7l⟩ := D16.out.at (b := w6.heap.size) (x := abf) (y := abd) (by simp); obtain ⟨c16_8a, c16_8b, c16_8l⟩ := D16.out.at (b := w.heap.size) (x := af) (y := ad) (by simp); obtain ⟨c16_9a, c16_9b, c16_9l⟩ := D16.out.at (b := w.heap.size + 1) (x := bf) (y := bd) (by simp); obtain ⟨c16_10a, c16_10b, c16_10l⟩ := D16.out.at (b := w.heap.size + 1 + 1) (x := cf) (y := cd) (by simp); clear hb)
      | (clear TK14; go_at_call 19; refine (F4.out _ R16.out).mono ?_; rintro e w17 ⟨rfl, hb⟩; have D17 := Lib.hid (D16.out.later hb); have B17 := Lib.hid (B16.out.trans (hb.mono B16.out.size)); have R17 := Lib.hid (R16.out.below hb); clear c16_0a c16_0b c16_0l c16_1a c16_1b c16_1l c16_2a c16_2b c16_2l c16_3a c16_3b c16_3l c16_4a c16_4b c16_4l c16_5a c16_5b c16_5l c16_6a c16_6b c16_6l c16_7a c16_7b c16_7l c16_8a c16_8b c16_8l c16_9a c16_9b c16_9l c16_10a c16_10b c16_10l; obtain ⟨c17_0a, c17_0b, c17_0l⟩ := D17.out.at (b := w13.heap.size) (x := mf) (y := md) (by simp); obtain ⟨c17_1a, c17_1b, c17_1l⟩ := D17.out.at (b := w12.heap.size) (x := acf) (y := acd) (by simp); obtain ⟨c17_2a, c17_2b, c17_2l⟩ := D17.out.at (b := WF.heap.size) (x := af) (y := ad) (by simp); obtain ⟨c17_3a, c17_3b, c17_3l⟩ := D17.out.at (b := w10.heap.size) (x := xf) (y := xd) (by simp); obtain ⟨c17_4a, c17_4b, c17_4l⟩ := D17.out.at (b := w9.heap.size) (x := xf) (y := xd) (by simp); obtain ⟨c17_5a, c17_5b, c17_5l⟩ := D17.out.at (b := w8.heap.size) (x := bcf) (y := bcd) (by simp); obtain ⟨c17_6a, c17_6b, c17_6l⟩ := D17.out.at (b := w7.heap.size) (x := abf) (y := abd) (by simp); obtain ⟨c17_7a, c17_7b, c17_7l⟩ := D17.out.at (b := w6.heap.size) (x := abf) (y := abd) (by simp); obtain ⟨c17_8a, c17_8b, c17_8l⟩ := D17.out.at (b := w.heap.size) (x := af) (y := ad) (by simp); obtain ⟨c17_9a, c17_9b, c17_9l⟩ := D17.out.at (b := w.heap.size + 1) (x := bf) (y := bd) (by simp); obtain ⟨c17_10a, c17_10b, c17_10l⟩ := D17.out.at (b := w.heap.size + 1 + 1) (x := cf) (y := cd) (by simp); clear hb)
      | (clear TK15; go_at_call 19; refine (F5.out _ R17.out).mono ?_; rintro e w18 ⟨rfl, hb⟩; have D18 := Lib.hid (D17.out.later hb); have B18 := Lib.hid (B17.out.trans (hb.mono B17.out.size)); have R18 := Lib.hid (R17.out.below hb); clear c17_0a c17_0b c17_0l c17_1a c17_1b c17_1l c17_2a c17_2b c17_2l c17_3a c17_3b c17_3l c17_4a c17_4b c17_4l c17_5a c17_5b c17_5l c17_6a c17_6b c17_6l c17_7a c17_7b c17_7l c17_8a c17_8b c17_8l c17_9a c17_9b c17_9l c17_10a c17_10b c17_10l; obtain ⟨c18_0a, c18_0b, c18_0l⟩ := D18.out.at (b := w13.heap.size) (x := mf) (y := md) (by simp); obtain ⟨c18_1a, c18_1b, c18_1l⟩ := D18.out.at (b := w12.heap.size) (x := acf) (y := acd) (by simp); obtain ⟨c18_2a, c18_2b, c18_2l⟩ := D18.out.at (b := WF.heap.size) (x := af) (y := ad) (by simp); obtain ⟨c18_3a, c18_3b, c18_3l⟩ := D18.out.at (b := w10.heap.size) (x := xf) (y := xd) (by simp); obtain ⟨c18_4a, c18_4b, c18_4l⟩ := D18.out.at (b := w9.heap.size) (x := xf) (y := xd) (by simp); obtain ⟨c18_5a, c18_5b, c18_5l⟩ := D18.out.at (b := w8.heap.size) (x := bcf) (y := bcd) (by simp); obtain ⟨c18_6a, c18_6b, c18_6l⟩ := D18.out.at (b := w7.heap.size) (x := abf) (y := abd) (by simp); obtain ⟨c18_7a, c18_7b, c18_7l⟩ := D18.out.at (b := w6.heap.size) (x := abf) (y := abd) (by simp); obtain ⟨c18_8a, c18_8b, c18_8l⟩ := D18.out.at (b := w.heap.size) (x := af) (y := ad) (by simp); obtain ⟨c18_9a, c18_9b, c18_9l⟩ := D18.out.at (b := w.heap.size + 1) (x := bf) (y := bd) (by simp); obtain ⟨c18_10a, c18_10b, c18_10l⟩ := D18.out.at (b := w.heap.size + 1 + 1) (x := cf) (y := cd) (by simp); clear hb)
      | (clear TK16; go_at_call 19; refine (F6.out _ R18.out).mono ?_; rintro e w19 ⟨rfl, hb⟩; have D19 := Lib.hid (D18.out.later hb); have B19 := Lib.hid (B18.out.trans (hb.mono B18.out.size)); have R19 := Lib.hid (R18.out.below hb); clear c18_0a c18_0b c18_0l c18_1a c18_1b c18_1l c18_2a c18_2b c18_2l c18_3a c18_3b c18_3l c18_4a c18_4b c18_4l c18_5a c18_5b c18_5l c18_6a c18_6b c18_6l c18_7a c18_7b c18_7l c18_8a c18_8b c18_8l c18_9a c18_9b c18_9l c18_10a c18_10b c18_10l; obtain ⟨c19_0a, c19_0b, c19_0l⟩ := D19.out.at (b := w13.heap.size) (x := mf) (y := md) (by simp); obtain ⟨c19_1a, c19_1b, c19_1l⟩ := D19.out.at (b := w12.heap.size) (x := acf) (y := acd) (by simp); obtain ⟨c19_2a, c19_2b, c19_2l⟩ := D19.out.at (b := WF.heap.size) (x := af) (y := ad) (by simp); obtain ⟨c19_3a, c19_3b, c19_3l⟩ := D19.out.at (b := w10.heap.size) (x := xf) (y := xd) (by simp); obtain ⟨c19_4a, c19_4b, c19_4l⟩ := D19.out.at (b := w9.heap.size) (x := xf) (y := xd) (by simp); obtain ⟨c19_5a, c19_5b, c19_5l⟩ := D19.out.at (b := w8.heap.size) (x := bcf) (y := bcd) (by simp); obtain ⟨c19_6a, c19_6b, c19_6l⟩ := D19.out.at (b := w7.heap.size) (x := abf) (y := abd) (by simp); obtain ⟨c19_7a, c19_7b, c19_7l⟩ := D19.out.at (b := w6.heap.size) (x := abf) (y := abd) (by simp); obtain ⟨c19_8a, c19_8b, c19_8l⟩ := D19.out.at (b := w.heap.size) (x := af) (y := ad) (by simp); obtain ⟨c19_9a, c19_9b, c19_9l⟩ := D19.out.at (b := w.heap.size + 1) (x := bf) (y := bd) (by simp); obtain ⟨c19_10a, c19_10b, c19_10l⟩ := D19.out.at (b := w.heap.size + 1 + 1) (x := cf) (y := cd) (by simp); clear hb)
      | (clear TK17; go_at_call 19; refine (F7.out _ R19.out).mono ?_; rintro e w20 ⟨rfl, hb⟩; have D20 := Lib.hid (D19.out.later hb); have B20 := Lib.hid (B19.out.trans (hb.mono B19.out.size)); have R20 := Lib.hid (R19.out.below hb); clear c19_0a c19_0b c19_0l c19_1a c19_1b c19_1l c19_2a c19_2b c19_2l c19_3a c19_3b c19_3l c19_4a c19_4b c19_4l c19_5a c19_5b c19_5l c19_6a c19_6b c19_6l c19_7a c19_7b c19_7l c19_8a c19_8b c19_8l c19_9a c19_9b c19_9l c19_10a c19_10b c19_10l; obtain ⟨c20_0a, c20_0b, c20_0l⟩ := D20.out.at (b := w13.heap.size) (x := mf) (y := md) (by simp); obtain ⟨c20_1a, c20_1b, c20_1l⟩ := D20.out.at (b := w12.heap.size) (x := acf) (y := acd) (by simp); obtain ⟨c20_2a, c20_2b, c20_2l⟩ := D20.out.at (b := WF.heap.size) (x := af) (y := ad) (by simp); obtain ⟨c20_3a, c20_3b, c20_3l⟩ := D20.out.at (b := w10.heap.size) (x := xf) (y := xd) (by simp); obtain ⟨c20_4a, c20_4b, c20_4l⟩ := D20.out.at (b := w9.heap.size) (x := xf) (y := xd) (by simp); obtain ⟨c20_5a, c20_5b, c20_5l⟩ := D20.out.at (b := w8.heap.size) (x := bcf) (y := bcd) (by simp); obtain ⟨c20_6a, c20_6b, c20_6l⟩ := D20.out.at (b := w7.heap.size) (x := abf) (y := abd) (by simp); obtain ⟨c20_7a, c20_7b, c20_7l⟩ := D20.out.at (b := w6.heap.size) (x := abf) (y := abd) (by simp); obtain ⟨c20_8a, c20_8b, c20_8l⟩ := D20.out.at (b := w.heap.size) (x := af) (y := ad) (by simp); obtain ⟨c20_9a, c20_9b, c20_9l⟩ := D20.out.at (b := w.heap.size + 1) (x := bf) (y := bd) (by simp); obtain ⟨c20_10a, c20_10b, c20_10l⟩ := D20.out.at (b := w.heap.size + 1 + 1) (x := cf) (y := cd) (by simp); clear hb))
    all_goals first
      | (go_ret; exact ⟨rfl, B20.out⟩)
      | trace_state
end Go.Proofs.YtbfhonhjejeaiaaGreatDoor
