/- LossOrder returns true at every input: the plain law joined to the walk. -/
import Derived.Test.YtbfhonhjejeaiaaGreatDoorLwLossOrder01
namespace Go.Proofs.YtbfhonhjejeaiaaGreatDoor
open Go.RowKit Go.Shelf
open Lim

theorem valL_of {f d : ByteArray} (h : errL f d = 0) : LossIs f d (valL (f, d)) := errL_zero h
theorem none_is : LossIs ⟨#[49]⟩ ⟨#[48]⟩ noneL := ⟨IsT.one, IsT.zero, okL_none.one, okL_none.zero, okL_none.top⟩
theorem none_sz : SzL 1 noneL := ⟨Sz.one, Sz.zero⟩
theorem lossOrder_any (af ad bf bd cf cd : ByteArray) (w : World) (hr : Res w) :
    Calls Tryz.prog 4 #[.agg #[.string af, .string ad], .agg #[.string bf, .string bd], .agg #[.string cf, .string cd]] w fun e w' => e = .returned (.bool true) ∧ Below w.heap.size w w' := by
  cases hv : lightL2 [(af, ad), (bf, bd), (cf, cd)] with
  | false => exact order_heavy af ad bf bd cf cd w (Lib.hid hv) hr
  | true =>
    have hv2 := List.all_eq_true.1 hv
    have ha := hv2 (af, ad) (by simp)
    have hb := hv2 (bf, bd) (by simp)
    have hc := hv2 (cf, cd) (by simp)
    simp only [Bool.and_eq_true, decide_eq_true_eq] at ha hb hc
    obtain ⟨a1, a2⟩ := ha
    obtain ⟨b1, b2⟩ := hb
    obtain ⟨c1, c2⟩ := hc
    have qa := fun (w : World) (hr : Res w) => refLoss_any af ad w (by omega) (by omega) hr
    have qb := fun (w : World) (hr : Res w) => refLoss_any bf bd w (by omega) (by omega) hr
    have qc := fun (w : World) (hr : Res w) => refLoss_any cf cd w (by omega) (by omega) hr
    by_cases ea : errL af ad = 0
    · rw [ea] at qa
      by_cases eb : errL bf bd = 0
      · rw [eb] at qb
        by_cases ec : errL cf cd = 0
        · rw [ec] at qc
          have ia := valL_of ea
          have ib := valL_of eb
          have ic := valL_of ec
          have sa := lossIs_sz ia a1 a2
          have sb := lossIs_sz ib b1 b2
          have sc := lossIs_sz ic c1 c2
          generalize valL (af, ad) = A at *
          generalize valL (bf, bd) = B at *
          generalize valL (cf, cd) = C at *
          have oa := ia.ok
          have ob := ib.ok
          have oc := ic.ok
          have m1 : 100 + 100 + 1 ≤ maxD := by decide
          have m2 : 100 + 100 + 1 + 100 + 1 ≤ maxD := by decide
          have m3 : 100 + (100 + 100 + 1) + 1 ≤ maxD := by decide
          have iab := (sumL_ok oa ob sa sb m1).is
          have ibc := (sumL_ok ob oc sb sc m1).is
          have iac := (sumL_ok oa oc sa sc m1).is
          have im := (aboveL_ok oa ob).is
          have pba := fun (w : World) (hr : Res w) => addV ib ia sb sa m1 w hr
          have py := fun (w : World) (hr : Res w) => addV ia ibc sa (szL_sum sb sc) m3 w hr
          have pz := fun (w : World) (hr : Res w) => addV ia none_is sa none_sz (by decide) w hr
          have f3 := fun (w : World) (hr : Res w) => fitsV ia im w hr
          have f4 := fun (w : World) (hr : Res w) => fitsV ib im w hr
          have f7 := fun (w : World) (hr : Res w) => fitsV im ic w hr
          rw [sumL_comm B A] at pba
          rw [← sumL_assoc oa.zero oc.zero] at py
          rw [sumL_none oa.top, ← ia.f.text, ← ia.d.text] at pz
          rw [above_left] at f3
          rw [above_right] at f4
          rw [above_iff] at f7
          exact order_walk af ad bf bd cf cd (rT (sumL A B).1) (rT (sumL A B).2) (rT (sumL B C).1) (rT (sumL B C).2) (rT (sumL (sumL A B) C).1) (rT (sumL (sumL A B) C).2) (rT (sumL A C).1) (rT (sumL A C).2) (rT (aboveL A B).1) (rT (aboveL A B).2)
            (fitsL A B) (fitsL (sumL A C) (sumL B C)) (fitsL A C) (fitsL B C) w (Lib.hid hv) (Lib.hid qa) (Lib.hid qb) (Lib.hid qc)
            (Lib.hid (fun w hr => addV ia ib sa sb m1 w hr)) (Lib.hid pba) (Lib.hid (fun w hr => addV ib ic sb sc m1 w hr)) (Lib.hid (fun w hr => addV iab ic (szL_sum sa sb) sc m2 w hr)) (Lib.hid py) (Lib.hid pz)
            (Lib.hid (fun w hr => addV ia ic sa sc m1 w hr)) (Lib.hid (fun w hr => maxV ia ib w hr))
            (Lib.hid (fun w hr => fitsV ia ib w hr)) (Lib.hid (fun w hr => fitsV iac ibc w hr)) (Lib.hid f3) (Lib.hid f4) (Lib.hid (fun w hr => fitsV ia ic w hr)) (Lib.hid (fun w hr => fitsV ib ic w hr)) (Lib.hid f7)
            (fun h => sumL_mono oc.one h) hr
        · exact order_kc af ad bf bd cf cd _ (by omega) w (Lib.hid hv) (Lib.hid qa) (Lib.hid qb) (Lib.hid qc) hr
      · exact order_kb af ad bf bd cf cd _ (by omega) w (Lib.hid hv) (Lib.hid qa) (Lib.hid qb) hr
    · exact order_ka af ad bf bd cf cd _ (by omega) w (Lib.hid hv) (Lib.hid qa) hr
end Go.Proofs.YtbfhonhjejeaiaaGreatDoor
