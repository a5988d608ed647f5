/- The reserved words, out of the row's premise. -/
import Derived.Test.YtlocafmglficnaaGreatDoorTabAwake
import Derived.Test.YtlocafmglficnaaGreatDoorRows
import Derived.Lib.LaidU8
import Derived.ChangeSame
import Derived.ChangeVars
import Derived.JoinedOf
namespace Go.Proofs.YtlocafmglficnaaGreatDoor
open Go.RowKit
theorem resG : Tryz.prog.globalNamed "privhouse/schema.reserved" = some 0 := by kernel_rfl
theorem resT : (Tryz.prog.globals[0]?).map (fun g => Tryz.prog.underlying g.type) = some (some (.array 35 9)) := by kernel_rfl
theorem resC9 : Tryz.prog.cellsOf 9 = 1 := by kernel_rfl
def resDs {H : Type} : List (DataW H) := resB.map fun b => .lit (.string b)
theorem laid_eq : (Rows.laid_privhouse_schema_reserved : DataW Unit) = .agg resDs := rfl
theorem res_of_reads {H : Type} {enc : TypeId × Value → H} {W : World} {base fuel : Nat} {sp : Nat → Bool} {held : Bool} {t : TypeId} {cs : Array Value} {p : List MemPlace} (ht : (Tryz.prog.globals[0]?).map (·.type) = some t) (hvar : W.var? Tryz.prog "privhouse/schema.reserved" = some cs)
    (hd : DataW.trod enc Tryz.prog W base sp held fuel t cs.toList = some (.agg resDs, p)) : Res W := by
  have hu : Tryz.prog.underlying t = some (.array 35 9) := by
    have h := resT
    cases e : Tryz.prog.globals[0]? with
    | none => rw [e] at h; cases h
    | some g =>
      rw [e] at h ht
      simp only [Option.map_some, Option.some.injEq] at h ht
      rw [← ht]; exact h
  intro i hi
  obtain ⟨fuel', d, q, hdi, htr⟩ := Lib.array_elem hu hd i hi
  rw [resC9] at htr
  obtain ⟨s, hcs, hx, _⟩ := DataW.trod_string Tryz.underlying9 htr
  have hdd : d = .lit (.string s.data.toList) := (Prod.mk.inj hx).1
  have hl : i < resB.length := hi
  have hb : resB[i]?.getD [] = s.data.toList := by
    unfold resDs at hdi
    rw [List.getElem?_map, List.getElem?_eq_getElem hl] at hdi
    simp only [Option.map_some, Option.some.injEq] at hdi
    rw [hdd] at hdi
    simp only [DataW.lit.injEq, Lit.string.injEq] at hdi
    rw [List.getElem?_eq_getElem hl]
    exact hdi
  have hs : resS i = s := by
    unfold resS
    rw [hb]
  have hc : cs[i]? = some (.string s) := by
    rw [← Array.getElem?_toList]
    have := congrArg (fun l : List Value => l[0]?) hcs
    simpa using this
  rw [hs, World.var?_cell resG hvar i]
  exact hc
theorem res_of_laid {W : World} (h : laidMet Tryz.prog [("privhouse/schema.reserved", Rows.laid_privhouse_schema_reserved)] W) : Res W := by
  have hr := Lib.laidMet.reads h (.head _)
  obtain ⟨g, t, cs, fuel, p, hg, ht, hvar, hd⟩ := hr
  obtain rfl := Option.some.inj (resG.symm.trans hg)
  rw [laid_eq] at hd
  exact res_of_reads ht hvar hd
end Go.Proofs.YtlocafmglficnaaGreatDoor
