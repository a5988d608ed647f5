/- A region that draws its order and only reads and calls what lays blocks of its own: one walk. LossCalls: the walk (printed by mklcalls.py). -/
import Derived.Test.YtbfhonhjejeaiaaGreatDoorRb01
import Derived.BigQuiet
import Derived.Below
import Derived.Test.YtbfhonhjejeaiaaGreatDoorRb15
namespace Go.Proofs.YtbfhonhjejeaiaaGreatDoor
open Go.RowKit

/-- A later world: what lay before lies as it did. -/
structure LaterW (w : World) where
  W : World
  h : Below w.heap.size w W
instance (w : World) : Nonempty (LaterW w) := ⟨⟨w, Below.refl _ _⟩⟩
theorem wp_region_later {P : Program} {id : Nat} {Q : Exit → Act → World → Prop} {a : Act} {w : World} {l : List Oper} (hm : P.follows .mixedOrders = true) (hB : Region.lexB .any l.toArray = true)
    (h : wpQuiet P l.toArray (fun W => ∃ x : LaterW w, W = x.W) (fun a' => ∀ W, (∃ x : LaterW w, W = x.W) → Q .normal a' W) l a) : (Code.region id l.toArray true).wp P Q a w :=
  wp_region_quiet (C := fun W => ∃ x : LaterW w, W = x.W) hm hB ⟨⟨{ w with drawn := w.drawn + 1 }, ⟨rfl, rfl, rfl, Nat.le_refl _, fun _ _ => rfl⟩⟩, rfl⟩ (by simpa using h)
end Go.Proofs.YtbfhonhjejeaiaaGreatDoor
namespace Go.Proofs.YtbfhonhjejeaiaaGreatDoor
open Go.RowKit Go.Shelf
open Lim

theorem Held.wide {W : World} {L : List (Nat × ByteArray × ByteArray)} (h : Held W L) {b : Nat} {x y : ByteArray} (hm : (b, x, y) ∈ L) : (∀ z : LaterW W, z.W.cell? ⟨b, 0, none⟩ = some (.string x)) ∧ ∀ z : LaterW W, z.W.cell? ⟨b, 1, none⟩ = some (.string y) :=
  ⟨fun z => ((h.later z.h).at hm).1, fun z => ((h.later z.h).at hm).2.1⟩
set_option maxRecDepth 100000 in
set_option maxHeartbeats 16000000 in
theorem calls_walk (af ad bf bd u x1 y1 x2 y2 x4 y4 x5 y5 : ByteArray) (k k1 k2 k3 k4 k5 k6 : Int) (bb : Bool) (w : World) 
    (PAdd : Hid (∀ w, Res w → Calls Tryz.prog 15 #[.agg #[.string af, .string ad], .agg #[.string bf, .string bd]] w fun e w' => e = .returned (.tuple #[.agg #[.string x1, .string y1], .int .i64 k1]) ∧ Below w.heap.size w w'))
    (QAdd : Hid (∀ w, Res w → Calls Tryz.prog 16 #[.agg #[.string af, .string ad], .agg #[.string bf, .string bd]] w fun e w' => e = .returned (.tuple #[.agg #[.string x1, .string y1], .int .i64 k1]) ∧ Below w.heap.size w w'))
    (PMax : Hid (∀ w, Res w → Calls Tryz.prog 17 #[.agg #[.string af, .string ad], .agg #[.string bf, .string bd]] w fun e w' => e = .returned (.tuple #[.agg #[.string x2, .string y2], .int .i64 k2]) ∧ Below w.heap.size w w'))
    (QMax : Hid (∀ w, Res w → Calls Tryz.prog 18 #[.agg #[.string af, .string ad], .agg #[.string bf, .string bd]] w fun e w' => e = .returned (.tuple #[.agg #[.string x2, .string y2], .int .i64 k2]) ∧ Below w.heap.size w w'))
    (PFits : Hid (∀ w, Res w → Calls Tryz.prog 19 #[.agg #[.string af, .string ad], .agg #[.string bf, .string bd]] w fun e w' => e = .returned (.tuple #[.bool bb, .int .i64 k3]) ∧ Below w.heap.size w w'))
    (QFits : Hid (∀ w, Res w → Calls Tryz.prog 20 #[.agg #[.string af, .string ad], .agg #[.string bf, .string bd]] w fun e w' => e = .returned (.tuple #[.bool bb, .int .i64 k3]) ∧ Below w.heap.size w w'))
    (PGroup : Hid (∀ w, Res w → Calls Tryz.prog 21 #[.agg #[.string af, .string ad], .int .i64 k] w fun e w' => e = .returned (.tuple #[.agg #[.string x4, .string y4], .int .i64 k4]) ∧ Below w.heap.size w w'))
    (QGroup : Hid (∀ w, Res w → Calls Tryz.prog 22 #[.agg #[.string af, .string ad], .int .i64 k] w fun e w' => e = .returned (.tuple #[.agg #[.string x4, .string y4], .int .i64 k4]) ∧ Below w.heap.size w w'))
    (PLate : Hid (∀ w, Res w → Calls Tryz.prog 23 #[.agg #[.string af, .string ad], .string u] w fun e w' => e = .returned (.tuple #[.agg #[.string x5, .string y5], .int .i64 k5]) ∧ Below w.heap.size w w'))
    (QLate : Hid (∀ w, Res w → Calls Tryz.prog 24 #[.agg #[.string af, .string ad], .string u] w fun e w' => e = .returned (.tuple #[.agg #[.string x5, .string y5], .int .i64 k5]) ∧ Below w.heap.size w w'))
    (PCheck : Hid (∀ w, Res w → Calls Tryz.prog 25 #[.agg #[.string af, .string ad]] w fun e w' => e = .returned (.int .i64 k6) ∧ Below w.heap.size w w'))
    (QCheck : Hid (∀ w, Res w → Calls Tryz.prog 26 #[.agg #[.string af, .string ad]] w fun e w' => e = .returned (.int .i64 k6) ∧ Below w.heap.size w w')) (HV : Hid (lightL2 [(af, ad), (bf, bd)] = true)) (hu : u.size ≤ 100) (hr : Res w) :
    Calls Tryz.prog 3 #[.agg #[.string af, .string ad], .agg #[.string bf, .string bd], .int .i64 k, .string u] w fun e w' => e = .returned (.bool true) ∧ Below w.heap.size w w' := by
  have H0 := At2.new w 24 24 #[.string af, .string ad] #[.string bf, .string bd] hr
  have D0 := Lib.hid (show Held ((w.alloc (.cells #[.string af, .string ad] 24)).alloc (.cells #[.string bf, .string bd] 24)) [(w.heap.size, af, ad), (w.heap.size + 1, bf, bd)] from by
    intro x hx
    simp only [List.mem_cons, List.not_mem_nil, or_false] at hx
    rcases hx with rfl | rfl
    · exact H0.a
    · exact H0.b)
  have B0 := Lib.hid H0.below
  have R0 := Lib.hid H0.res
  have hu2 : decide (100 < (u.size : Int)) = false := decide_eq_false (by omega)
  clear H0 hr hu
  go_enter Tryz.func3, Tryz.ntmps3
  go_wp2_with (first
    | (go_at_call 13; refine (llives_any _ R0.out).mono ?_; rintro e w1 ⟨rfl, hb⟩; have D1 := Lib.hid (D0.out.later hb); have B1 := Lib.hid (B0.out.trans (hb.mono B0.out.size)); have R1 := Lib.hid (R0.out.below hb); obtain ⟨c1_0a, c1_0b, c1_0l⟩ := D1.out.at (b := w.heap.size) (x := af) (y := ad) (by simp); obtain ⟨c1_1a, c1_1b, c1_1l⟩ := D1.out.at (b := w.heap.size + 1) (x := bf) (y := bd) (by simp); clear hb)
    | (go_at_call 14; refine (llight_any [(af, ad), (bf, bd)] _ _ (LRow.two (Blk.new w1 _ _))).mono ?_; rintro e w2 ⟨rfl, hw⟩; rw [HV.out]; have hb : Below w1.heap.size w1 w2 := (by rw [hw]; exact below_alloc (Below.refl _ _) _); have D2 := Lib.hid (D1.out.later hb); have B2 := Lib.hid (B1.out.trans (hb.mono B1.out.size)); have R2 := Lib.hid (R1.out.below hb); obtain ⟨c2_0a, c2_0b, c2_0l⟩ := D2.out.at (b := w.heap.size) (x := af) (y := ad) (by simp); obtain ⟨c2_1a, c2_1b, c2_1l⟩ := D2.out.at (b := w.heap.size + 1) (x := bf) (y := bd) (by simp); clear hb hw)
    | (go_at_call 15; refine (PAdd.out _ R2.out).mono ?_; rintro e w3 ⟨rfl, hb⟩; have D3 := Lib.hid (D2.out.later hb); have B3 := Lib.hid (B2.out.trans (hb.mono B2.out.size)); have R3 := Lib.hid (R2.out.below hb); obtain ⟨c3_0a, c3_0b, c3_0l⟩ := D3.out.at (b := w.heap.size) (x := af) (y := ad) (by simp); obtain ⟨c3_1a, c3_1b, c3_1l⟩ := D3.out.at (b := w.heap.size + 1) (x := bf) (y := bd) (by simp); clear hb)
    | (go_at_call 16; refine (QAdd.out _ (R3.out.below (below_alloc (Below.refl _ _) _))).mono ?_; rintro e w4 ⟨rfl, hb⟩; have D4 := Lib.hid (Held.later (D3.out.push x1 y1) hb); have B4 := Lib.hid ((below_alloc B3.out (.cells #[.string x1, .string y1] 24)).trans (hb.mono (below_alloc B3.out (.cells #[.string x1, .string y1] 24)).size)); have R4 := Lib.hid (Res.below (R3.out.below (below_alloc (Below.refl _ _) (.cells #[.string x1, .string y1] 24))) hb); obtain ⟨c4_0a, c4_0b, c4_0l⟩ := D4.out.at (b := w.heap.size) (x := af) (y := ad) (by simp); obtain ⟨c4_1a, c4_1b, c4_1l⟩ := D4.out.at (b := w.heap.size + 1) (x := bf) (y := bd) (by simp); clear hb)
    | (go_at_call 17; refine (PMax.out _ (R4.out.below (below_alloc (Below.refl _ _) _))).mono ?_; rintro e w5 ⟨rfl, hb⟩; have D5 := Lib.hid (Held.later (D4.out.push x1 y1) hb); have B5 := Lib.hid ((below_alloc B4.out (.cells #[.string x1, .string y1] 24)).trans (hb.mono (below_alloc B4.out (.cells #[.string x1, .string y1] 24)).size)); have R5 := Lib.hid (Res.below (R4.out.below (below_alloc (Below.refl _ _) (.cells #[.string x1, .string y1] 24))) hb); obtain ⟨c5_0a, c5_0b, c5_0l⟩ := D5.out.at (b := w.heap.size) (x := af) (y := ad) (by simp); obtain ⟨c5_1a, c5_1b, c5_1l⟩ := D5.out.at (b := w.heap.size + 1) (x := bf) (y := bd) (by simp); clear hb)
    | (go_at_call 18; refine (QMax.out _ (R5.out.below (below_alloc (Below.refl _ _) _))).mono ?_; rintro e w6 ⟨rfl, hb⟩; have D6 := Lib.hid (Held.later (D5.out.push x2 y2) hb); have B6 := Lib.hid ((below_alloc B5.out (.cells #[.string x2, .string y2] 24)).trans (hb.mono (below_alloc B5.out (.cells #[.string x2, .string y2] 24)).size)); have R6 := Lib.hid (Res.below (R5.out.below (below_alloc (Below.refl _ _) (.cells #[.string x2, .string y2] 24))) hb); obtain ⟨c6_0a, c6_0b, c6_0l⟩ := D6.out.at (b := w.heap.size) (x := af) (y := ad) (by simp); obtain ⟨c6_1a, c6_1b, c6_1l⟩ := D6.out.at (b := w.heap.size + 1) (x := bf) (y := bd) (by simp); clear hb)
    | (go_at_call 19; refine (PFits.out _ (R6.out.below (below_alloc (Below.refl _ _) _))).mono ?_; rintro e w7 ⟨rfl, hb⟩; have D7 := Lib.hid (Held.later (D6.out.push x2 y2) hb); have B7 := Lib.hid ((below_alloc B6.out (.cells #[.string x2, .string y2] 24)).trans (hb.mono (below_alloc B6.out (.cells #[.string x2, .string y2] 24)).size)); have R7 := Lib.hid (Res.below (R6.out.below (below_alloc (Below.refl _ _) (.cells #[.string x2, .string y2] 24))) hb); obtain ⟨c7_0a, c7_0b, c7_0l⟩ := D7.out.at (b := w.heap.size) (x := af) (y := ad) (by simp); obtain ⟨c7_1a, c7_1b, c7_1l⟩ := D7.out.at (b := w.heap.size + 1) (x := bf) (y := bd) (by simp); clear hb)
    | (go_at_call 20; refine (QFits.out _ R7.out).mono ?_; rintro e w8 ⟨rfl, hb⟩; have D8 := Lib.hid (D7.out.later hb); have B8 := Lib.hid (B7.out.trans (hb.mono B7.out.size)); have R8 := Lib.hid (R7.out.below hb); obtain ⟨c8_0a, c8_0b, c8_0l⟩ := D8.out.at (b := w.heap.size) (x := af) (y := ad) (by simp); obtain ⟨c8_1a, c8_1b, c8_1l⟩ := D8.out.at (b := w.heap.size + 1) (x := bf) (y := bd) (by simp); clear hb)
    | (go_at_call 21; refine (PGroup.out _ R8.out).mono ?_; rintro e w9 ⟨rfl, hb⟩; have D9 := Lib.hid (D8.out.later hb); have B9 := Lib.hid (B8.out.trans (hb.mono B8.out.size)); have R9 := Lib.hid (R8.out.below hb); obtain ⟨c9_0a, c9_0b, c9_0l⟩ := D9.out.at (b := w.heap.size) (x := af) (y := ad) (by simp); obtain ⟨c9_1a, c9_1b, c9_1l⟩ := D9.out.at (b := w.heap.size + 1) (x := bf) (y := bd) (by simp); clear hb)
    | (go_at_call 22; refine (QGroup.out _ (R9.out.below (below_alloc (Below.refl _ _) _))).mono ?_; rintro e w10 ⟨rfl, hb⟩; have D10 := Lib.hid (Held.later (D9.out.push x4 y4) hb); have B10 := Lib.hid ((below_alloc B9.out (.cells #[.string x4, .string y4] 24)).trans (hb.mono (below_alloc B9.out (.cells #[.string x4, .string y4] 24)).size)); have R10 := Lib.hid (Res.below (R9.out.below (below_alloc (Below.refl _ _) (.cells #[.string x4, .string y4] 24))) hb); obtain ⟨c10_0a, c10_0b, c10_0l⟩ := D10.out.at (b := w.heap.size) (x := af) (y := ad) (by simp); obtain ⟨c10_1a, c10_1b, c10_1l⟩ := D10.out.at (b := w.heap.size + 1) (x := bf) (y := bd) (by simp); clear hb)
    | (go_at_call 23; refine (PLate.out _ (R10.out.below (below_alloc (Below.refl _ _) _))).mono ?_; rintro e w11 ⟨rfl, hb⟩; have D11 := Lib.hid (Held.later (D10.out.push x4 y4) hb); have B11 := Lib.hid ((below_alloc B10.out (.cells #[.string x4, .string y4] 24)).trans (hb.mono (below_alloc B10.out (.cells #[.string x4, .string y4] 24)).size)); have R11 := Lib.hid (Res.below (R10.out.below (below_alloc (Below.refl _ _) (.cells #[.string x4, .string y4] 24))) hb); obtain ⟨c11_0a, c11_0b, c11_0l⟩ := D11.out.at (b := w.heap.size) (x := af) (y := ad) (by simp); obtain ⟨c11_1a, c11_1b, c11_1l⟩ := D11.out.at (b := w.heap.size + 1) (x := bf) (y := bd) (by simp); clear hb)
    | (go_at_call 24; refine (QLate.out _ (R11.out.below (below_alloc (Below.refl _ _) _))).mono ?_; rintro e w12 ⟨rfl, hb⟩; have D12 := Lib.hid (Held.later (D11.out.push x5 y5) hb); have B12 := Lib.hid ((below_alloc B11.out (.cells #[.string x5, .string y5] 24)).trans (hb.mono (below_alloc B11.out (.cells #[.string x5, .string y5] 24)).size)); have R12 := Lib.hid (Res.below (R11.out.below (below_alloc (Below.refl _ _) (.cells #[.string x5, .string y5] 24))) hb); obtain ⟨c12_0a, c12_0b, c12_0l⟩ := D12.out.at (b := w.heap.size) (x := af) (y := ad) (by simp); obtain ⟨c12_1a, c12_1b, c12_1l⟩ := D12.out.at (b := w.heap.size + 1) (x := bf) (y := bd) (by simp); clear hb))
  have DF := Lib.hid (D12.out.push x5 y5)
  have BF := Lib.hid (below_alloc B12.out (.cells #[.string x5, .string y5] 24))
  have RF := Lib.hid (R12.out.below (below_alloc (Below.refl _ _) (.cells #[.string x5, .string y5] 24)))
  obtain ⟨f0a, f0b⟩ := DF.out.wide (b := w.heap.size) (x := af) (y := ad) (by simp)
  obtain ⟨f1a, f1b⟩ := DF.out.wide (b := w.heap.size + 1) (x := bf) (y := bd) (by simp)
  obtain ⟨f2a, f2b⟩ := DF.out.wide (b := w3.heap.size) (x := x1) (y := y1) (by simp)
  obtain ⟨f3a, f3b⟩ := DF.out.wide (b := w4.heap.size) (x := x1) (y := y1) (by simp)
  obtain ⟨f4a, f4b⟩ := DF.out.wide (b := w5.heap.size) (x := x2) (y := y2) (by simp)
  obtain ⟨f5a, f5b⟩ := DF.out.wide (b := w6.heap.size) (x := x2) (y := y2) (by simp)
  obtain ⟨f6a, f6b⟩ := DF.out.wide (b := w9.heap.size) (x := x4) (y := y4) (by simp)
  obtain ⟨f7a, f7b⟩ := DF.out.wide (b := w10.heap.size) (x := x4) (y := y4) (by simp)
  obtain ⟨f8a, f8b⟩ := DF.out.wide (b := w11.heap.size) (x := x5) (y := y5) (by simp)
  obtain ⟨f9a, f9b⟩ := DF.out.wide (b := w12.heap.size) (x := x5) (y := y5) (by simp)
  generalize w12.alloc (.cells #[.string x5, .string y5] 24) = WF at *
  refine wp_region_later (by kernel_rfl) (by kernel_rfl) ?_
  repeat (go_big_quiet_step (first
    | (go_at_call 25; refine (PCheck.out _ (RF.out.below (LaterW.h _))).mono ?_; rintro e w99 ⟨rfl, hb9⟩; exact ⟨rfl, ⟨⟨w99, (LaterW.h _).trans (hb9.mono (LaterW.h _).size)⟩, rfl⟩⟩)
    | (go_at_call 26; refine (QCheck.out _ (RF.out.below (LaterW.h _))).mono ?_; rintro e w99 ⟨rfl, hb9⟩; exact ⟨rfl, ⟨⟨w99, (LaterW.h _).trans (hb9.mono (LaterW.h _).size)⟩, rfl⟩⟩)))
  refine wpQuiet_nil ?_
  rintro _ ⟨z, rfl⟩
  go_wp2
  go_ret
  exact ⟨rfl, BF.out.trans (z.h.mono BF.out.size)⟩
set_option maxRecDepth 100000 in
set_option maxHeartbeats 16000000 in
theorem calls_heavy (af ad bf bd u : ByteArray) (k : Int) (w : World) (HV : Hid (lightL2 [(af, ad), (bf, bd)] = false)) (hr : Res w) :
    Calls Tryz.prog 3 #[.agg #[.string af, .string ad], .agg #[.string bf, .string bd], .int .i64 k, .string u] w fun e w' => e = .returned (.bool true) ∧ Below w.heap.size w w' := by
  have H0 := At2.new w 24 24 #[.string af, .string ad] #[.string bf, .string bd] hr
  have D0 := Lib.hid (show Held ((w.alloc (.cells #[.string af, .string ad] 24)).alloc (.cells #[.string bf, .string bd] 24)) [(w.heap.size, af, ad), (w.heap.size + 1, bf, bd)] from by
    intro x hx
    simp only [List.mem_cons, List.not_mem_nil, or_false] at hx
    rcases hx with rfl | rfl
    · exact H0.a
    · exact H0.b)
  have B0 := Lib.hid H0.below
  have R0 := Lib.hid H0.res
  clear H0 hr
  go_enter Tryz.func3, Tryz.ntmps3
  go_wp2_with (first
    | (go_at_call 13; refine (llives_any _ R0.out).mono ?_; rintro e w1 ⟨rfl, hb⟩; have D1 := Lib.hid (D0.out.later hb); have B1 := Lib.hid (B0.out.trans (hb.mono B0.out.size)); have R1 := Lib.hid (R0.out.below hb); obtain ⟨c1_0a, c1_0b, c1_0l⟩ := D1.out.at (b := w.heap.size) (x := af) (y := ad) (by simp); obtain ⟨c1_1a, c1_1b, c1_1l⟩ := D1.out.at (b := w.heap.size + 1) (x := bf) (y := bd) (by simp); clear hb)
    | (go_at_call 14; refine (llight_any [(af, ad), (bf, bd)] _ _ (LRow.two (Blk.new w1 _ _))).mono ?_; rintro e w2 ⟨rfl, hw⟩; rw [HV.out]; have hb : Below w1.heap.size w1 w2 := (by rw [hw]; exact below_alloc (Below.refl _ _) _); have D2 := Lib.hid (D1.out.later hb); have B2 := Lib.hid (B1.out.trans (hb.mono B1.out.size)); have R2 := Lib.hid (R1.out.below hb); obtain ⟨c2_0a, c2_0b, c2_0l⟩ := D2.out.at (b := w.heap.size) (x := af) (y := ad) (by simp); obtain ⟨c2_1a, c2_1b, c2_1l⟩ := D2.out.at (b := w.heap.size + 1) (x := bf) (y := bd) (by simp); clear hb hw))
  go_ret
  exact ⟨rfl, B2.out⟩
set_option maxRecDepth 100000 in
set_option maxHeartbeats 16000000 in
theorem calls_long (af ad bf bd u : ByteArray) (k : Int) (w : World) (HV : Hid (lightL2 [(af, ad), (bf, bd)] = true)) (hu : 100 < u.size) (hr : Res w) :
    Calls Tryz.prog 3 #[.agg #[.string af, .string ad], .agg #[.string bf, .string bd], .int .i64 k, .string u] w fun e w' => e = .returned (.bool true) ∧ Below w.heap.size w w' := by
  have H0 := At2.new w 24 24 #[.string af, .string ad] #[.string bf, .string bd] hr
  have D0 := Lib.hid (show Held ((w.alloc (.cells #[.string af, .string ad] 24)).alloc (.cells #[.string bf, .string bd] 24)) [(w.heap.size, af, ad), (w.heap.size + 1, bf, bd)] from by
    intro x hx
    simp only [List.mem_cons, List.not_mem_nil, or_false] at hx
    rcases hx with rfl | rfl
    · exact H0.a
    · exact H0.b)
  have B0 := Lib.hid H0.below
  have R0 := Lib.hid H0.res
  have hu2 : decide (100 < (u.size : Int)) = true := decide_eq_true (by omega)
  clear H0 hr hu
  go_enter Tryz.func3, Tryz.ntmps3
  go_wp2_with (first
    | (go_at_call 13; refine (llives_any _ R0.out).mono ?_; rintro e w1 ⟨rfl, hb⟩; have D1 := Lib.hid (D0.out.later hb); have B1 := Lib.hid (B0.out.trans (hb.mono B0.out.size)); have R1 := Lib.hid (R0.out.below hb); obtain ⟨c1_0a, c1_0b, c1_0l⟩ := D1.out.at (b := w.heap.size) (x := af) (y := ad) (by simp); obtain ⟨c1_1a, c1_1b, c1_1l⟩ := D1.out.at (b := w.heap.size + 1) (x := bf) (y := bd) (by simp); clear hb)
    | (go_at_call 14; refine (llight_any [(af, ad), (bf, bd)] _ _ (LRow.two (Blk.new w1 _ _))).mono ?_; rintro e w2 ⟨rfl, hw⟩; rw [HV.out]; have hb : Below w1.heap.size w1 w2 := (by rw [hw]; exact below_alloc (Below.refl _ _) _); have D2 := Lib.hid (D1.out.later hb); have B2 := Lib.hid (B1.out.trans (hb.mono B1.out.size)); have R2 := Lib.hid (R1.out.below hb); obtain ⟨c2_0a, c2_0b, c2_0l⟩ := D2.out.at (b := w.heap.size) (x := af) (y := ad) (by simp); obtain ⟨c2_1a, c2_1b, c2_1l⟩ := D2.out.at (b := w.heap.size + 1) (x := bf) (y := bd) (by simp); clear hb hw))
  go_ret
  exact ⟨rfl, B2.out⟩
theorem late_fits {f d u : ByteArray} (h1 : f.size ≤ 100) (h2 : d.size ≤ 100) (h3 : u.size ≤ 100) (hL : errL f d = 0) (hU : errQ u.data.toList = 0) :
    fits ((valL (f, d)).1 + 1) = true ∧ fits (((valL (f, d)).1 + 1) * valQ u.data.toList) = true ∧ fits ((valL (f, d)).2 + ((valL (f, d)).1 + 1) * valQ u.data.toList) = true := by
  have hl := errL_zero hL
  obtain ⟨s1, s2⟩ := lossIs_sz hl h1 h2
  have s3 : Sz 100 (valQ u.data.toList) := sz_of_text hU (by rw [size_list] at h3; exact h3)
  have t1 := s1.add Sz.one
  have t2 := t1.mul s3
  have t3 := s2.add t2
  exact ⟨fits_sz.2 (t1.mono (by decide)), fits_sz.2 (t2.mono (by decide)), fits_sz.2 (t3.mono (by decide))⟩
/-- LossCalls returns true at every input. -/
theorem lossCalls_any (af ad bf bd u : ByteArray) (k : Int) (w : World) (hr : Res w) :
    Calls Tryz.prog 3 #[.agg #[.string af, .string ad], .agg #[.string bf, .string bd], .int .i64 k, .string u] w fun e w' => e = .returned (.bool true) ∧ Below w.heap.size w w' := by
  cases hv : lightL2 [(af, ad), (bf, bd)] with
  | false => exact calls_heavy af ad bf bd u k w (Lib.hid hv) hr
  | true =>
    by_cases hu : u.size ≤ 100
    · have hv2 := List.all_eq_true.1 hv
      have ha := hv2 (af, ad) (by simp)
      have hb := hv2 (bf, bd) (by simp)
      simp only [Bool.and_eq_true, decide_eq_true_eq] at ha hb
      obtain ⟨a1, a2⟩ := ha
      obtain ⟨b1, b2⟩ := hb
      have A1 : af.size ≤ 270000 := by omega
      have A2 : ad.size ≤ 270000 := by omega
      have B1 : bf.size ≤ 270000 := by omega
      have B2 : bd.size ≤ 270000 := by omega
      have U1 : u.size ≤ 270000 := by omega
      obtain ⟨x1, y1, k1, e1⟩ := resL_shape (foldR plusL [(af, ad), (bf, bd)])
      obtain ⟨x2, y2, k2, e2⟩ := resL_shape (foldR (fun a b => .ok (aboveL a b)) [(af, ad), (bf, bd)])
      obtain ⟨bb, k3, e3⟩ : ∃ (b : Bool) (n : Int), resB (fitsR [(af, ad), (bf, bd)] (valL (af, ad)) (valL (bf, bd))) = .tuple #[.bool b, .int .i64 n] := by
        cases fitsR [(af, ad), (bf, bd)] (valL (af, ad)) (valL (bf, bd)) with
        | ok b => exact ⟨_, _, rfl⟩
        | error n => exact ⟨_, _, rfl⟩
      obtain ⟨x4, y4, k4, e4⟩ := resL_shape (groupR af ad k)
      obtain ⟨x5, y5, k5, e5⟩ := resL_shape (lateR af ad u)
      have p1 := fun (w : World) hr => lossAdd_any af ad bf bd w A1 A2 B1 B2 hr
      have q1 := fun (w : World) hr => refLossAdd_any af ad bf bd w A1 A2 B1 B2 hr
      have p2 := fun (w : World) hr => lossMax_any af ad bf bd w A1 A2 B1 B2 hr
      have q2 := fun (w : World) hr => refLossMax_any af ad bf bd w A1 A2 B1 B2 hr
      have p3 := fun (w : World) hr => lossFits_any af ad bf bd w A1 A2 B1 B2 hr
      have q3 := fun (w : World) hr => refLossFits_any af ad bf bd w A1 A2 B1 B2 hr
      have p4 := fun (w : World) hr => lossGroup_any af ad k w A1 A2 hr
      have q4 := fun (w : World) hr => refLossGroup_any af ad k w A1 A2 hr
      have p5 := fun (w : World) hr => lossLate_any af ad u w A1 A2 U1 hr (fun hL hU => late_fits a1 a2 hu hL hU)
      have q5 := fun (w : World) hr => refLossLate_any af ad u w A1 A2 U1 hr (fun hL hU => late_fits a1 a2 hu hL hU)
      rw [e1] at p1 q1
      rw [e2] at p2 q2
      rw [e3] at p3 q3
      rw [e4] at p4 q4
      rw [e5] at p5 q5
      exact calls_walk af ad bf bd u x1 y1 x2 y2 x4 y4 x5 y5 k k1 k2 k3 k4 k5 (errL af ad : Int) bb w (Lib.hid p1) (Lib.hid q1) (Lib.hid p2) (Lib.hid q2) (Lib.hid p3) (Lib.hid q3) (Lib.hid p4) (Lib.hid q4) (Lib.hid p5) (Lib.hid q5)
        (Lib.hid (fun w hr => lcheck_any af ad w A1 A2 hr)) (Lib.hid (fun w hr => refLoss_any af ad w A1 A2 hr)) (Lib.hid hv) hu hr
    · exact calls_long af ad bf bd u k w (Lib.hid hv) (by omega) hr
end Go.Proofs.YtbfhonhjejeaiaaGreatDoor
