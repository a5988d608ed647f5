/-
  DERIVED. GIVEN WITH THE SEED: THE CARDS: each row of YtigapglmipmbeaaGreatDoorRows.lean that lists a variable, with what it lists TIED to the program's text (the seventh form; the later family's looks); each row that meets fmt, with fmt's text TOLD by the authors' own Lean function (tested against real Go, not proved from fmt's source: count such statements apart). THE CARD IS WHAT COUNTS. Prove the row's statement (the work); the ties are given (YtigapglmipmbeaaGreatDoorTie.lean); close each card by the builder's one call (the guide's Derived/Test/ToyasCard.lean, 'card_holds'). Laid BY PROGRAM, IN A SANDBOX (cutbox-door.mjs). By AI agents, Wed Nov 11 2026. No macro, syntax, notation, axiom, sorry.
-/
import Derived.Test.YtigapglmipmbeaaGreatDoorRows
import GoSem.ClaimSeven
namespace Go.Proofs.YtigapglmipmbeaaGreatDoor
namespace Rows

/-- THE TIED CARD OF 'privhouselaw08.DistMakes'. -/
def distMakesCard : Claim7 := { stood := { row := distMakesRow, standIns := [], harness := (true, "5395951699d0e7c088c16c506ed30de6925104505e2026abbc93d9abbfe2aced"), looks := true }, kinds := [], alts := [], laidByText := true, laidKinds := [.data, .data, .data, .data, .sentinel, .sentinel, .pinned], laidTests := true, laidLooks := .later }
def DistMakesCardSaid : Prop := Claim7.holds Tryz.pinned (.plain (OpenSpec.ofChange distMakesSpec)) distMakesCard

/-- THE TIED CARD OF 'privhouselaw08.DistNames'. -/
def distNamesCard : Claim7 := { stood := { row := distNamesRow, standIns := [], harness := (true, "5395951699d0e7c088c16c506ed30de6925104505e2026abbc93d9abbfe2aced"), looks := true }, kinds := [], alts := [], laidByText := true, laidKinds := [.data, .data, .data, .data, .sentinel, .sentinel, .pinned], laidTests := true, laidLooks := .later }
def DistNamesCardSaid : Prop := Claim7.holds Tryz.pinned (.plain (OpenSpec.ofChange distNamesSpec)) distNamesCard

/-- THE TIED CARD OF 'privhouselaw10.MomentDeltas'. -/
def momentDeltasCard : Claim7 := { stood := { row := momentDeltasRow, standIns := [], harness := (true, "5395951699d0e7c088c16c506ed30de6925104505e2026abbc93d9abbfe2aced"), looks := true }, kinds := [], alts := [], laidByText := true, laidKinds := [.data, .data, .data, .data, .sentinel, .sentinel, .pinned], laidTests := true, laidLooks := .later }
def MomentDeltasCardSaid : Prop := Claim7.holds Tryz.pinned (.plain (OpenSpec.ofChange momentDeltasSpec)) momentDeltasCard

/-- THE TIED CARD OF 'privhouselaw10.MomentAdds'. -/
def momentAddsCard : Claim7 := { stood := { row := momentAddsRow, standIns := [], harness := (true, "5395951699d0e7c088c16c506ed30de6925104505e2026abbc93d9abbfe2aced"), looks := true }, kinds := [], alts := [], laidByText := true, laidKinds := [.data, .data, .data, .data, .sentinel, .sentinel, .pinned], laidTests := true, laidLooks := .later }
def MomentAddsCardSaid : Prop := Claim7.holds Tryz.pinned (.plain (OpenSpec.ofChange momentAddsSpec)) momentAddsCard

/-- THE TIED CARD OF 'privhouselaw10.MomentPure'. -/
def momentPureCard : Claim7 := { stood := { row := momentPureRow, standIns := [], harness := (true, "5395951699d0e7c088c16c506ed30de6925104505e2026abbc93d9abbfe2aced"), looks := true }, kinds := [], alts := [], laidByText := true, laidKinds := [.data, .data, .data, .data, .sentinel, .sentinel, .pinned], laidTests := true, laidLooks := .later }
def MomentPureCardSaid : Prop := Claim7.holds Tryz.pinned (.plain (OpenSpec.ofChange momentPureSpec)) momentPureCard

/-- THE TIED CARD OF 'privhouselaw09.LossAdds'. -/
def lossAddsCard : Claim7 := { stood := { row := lossAddsRow, standIns := [], harness := (true, "5395951699d0e7c088c16c506ed30de6925104505e2026abbc93d9abbfe2aced"), looks := true }, kinds := [], alts := [], laidByText := true, laidKinds := [.data, .data, .data, .data, .sentinel, .sentinel, .pinned], laidTests := true, laidLooks := .later }
def LossAddsCardSaid : Prop := Claim7.holds Tryz.pinned (.plain (OpenSpec.ofChange lossAddsSpec)) lossAddsCard

/-- THE TIED CARD OF 'privhouselaw09.LossGroups'. -/
def lossGroupsCard : Claim7 := { stood := { row := lossGroupsRow, standIns := [], harness := (true, "5395951699d0e7c088c16c506ed30de6925104505e2026abbc93d9abbfe2aced"), looks := true }, kinds := [], alts := [], laidByText := true, laidKinds := [.data, .data, .data, .data, .sentinel, .sentinel, .pinned], laidTests := true, laidLooks := .later }
def LossGroupsCardSaid : Prop := Claim7.holds Tryz.pinned (.plain (OpenSpec.ofChange lossGroupsSpec)) lossGroupsCard

/-- THE TIED CARD OF 'privhouselaw09.LossLates'. -/
def lossLatesCard : Claim7 := { stood := { row := lossLatesRow, standIns := [], harness := (true, "5395951699d0e7c088c16c506ed30de6925104505e2026abbc93d9abbfe2aced"), looks := true }, kinds := [], alts := [], laidByText := true, laidKinds := [.data, .data, .data, .data, .sentinel, .sentinel, .pinned], laidTests := true, laidLooks := .later }
def LossLatesCardSaid : Prop := Claim7.holds Tryz.pinned (.plain (OpenSpec.ofChange lossLatesSpec)) lossLatesCard

/-- THE TIED CARD OF 'privhouselaw09.LossRests'. -/
def lossRestsCard : Claim7 := { stood := { row := lossRestsRow, standIns := [], harness := (true, "5395951699d0e7c088c16c506ed30de6925104505e2026abbc93d9abbfe2aced"), looks := true }, kinds := [], alts := [], laidByText := true, laidKinds := [.data, .data, .data, .data, .sentinel, .sentinel, .pinned], laidTests := true, laidLooks := .later }
def LossRestsCardSaid : Prop := Claim7.holds Tryz.pinned (.plain (OpenSpec.ofChange lossRestsSpec)) lossRestsCard

/-- THE TIED CARD OF 'privhouselaw33.LedgerKnown'. -/
def ledgerKnownCard : Claim7 := { stood := { row := ledgerKnownRow, standIns := [], harness := (true, "5395951699d0e7c088c16c506ed30de6925104505e2026abbc93d9abbfe2aced"), looks := true }, kinds := [], alts := [], laidByText := true, laidKinds := [.data, .data, .data, .data, .sentinel, .sentinel, .pinned], laidTests := true, laidLooks := .later }
def LedgerKnownCardSaid : Prop := Claim7.holds Tryz.pinned (.plain (OpenSpec.ofChange ledgerKnownSpec)) ledgerKnownCard

/-- THE TIED CARD OF 'privhouselaw33.LedgerNone'. -/
def ledgerNoneCard : Claim7 := { stood := { row := ledgerNoneRow, standIns := [], harness := (true, "5395951699d0e7c088c16c506ed30de6925104505e2026abbc93d9abbfe2aced"), looks := true }, kinds := [], alts := [], laidByText := true, laidKinds := [.data, .data, .data, .data, .sentinel, .sentinel, .pinned], laidTests := true, laidLooks := .later }
def LedgerNoneCardSaid : Prop := Claim7.holds Tryz.pinned (.plain (OpenSpec.ofChange ledgerNoneSpec)) ledgerNoneCard

/-- THE TIED CARD OF 'privhouselaw08.DistSets'. -/
def distSetsCard : Claim7 := { stood := { row := distSetsRow, standIns := [], harness := (true, "5395951699d0e7c088c16c506ed30de6925104505e2026abbc93d9abbfe2aced"), looks := true }, kinds := [], alts := [], laidByText := true, laidKinds := [.data, .data, .data, .data, .sentinel, .sentinel, .pinned], laidTests := true, laidLooks := .later }
def DistSetsCardSaid : Prop := Claim7.holds Tryz.pinned (.plain (OpenSpec.ofChange distSetsSpec)) distSetsCard

/-- THE TIED CARD OF 'privhouselaw08.DistTriangle'. -/
def distTriangleCard : Claim7 := { stood := { row := distTriangleRow, standIns := [], harness := (true, "5395951699d0e7c088c16c506ed30de6925104505e2026abbc93d9abbfe2aced"), looks := true }, kinds := [], alts := [], laidByText := true, laidKinds := [.data, .data, .data, .data, .sentinel, .sentinel, .pinned], laidTests := true, laidLooks := .later }
def DistTriangleCardSaid : Prop := Claim7.holds Tryz.pinned (.plain (OpenSpec.ofChange distTriangleSpec)) distTriangleCard

/-- THE TIED CARD OF 'privhouselaw08.DistFactors'. -/
def distFactorsCard : Claim7 := { stood := { row := distFactorsRow, standIns := [], harness := (true, "5395951699d0e7c088c16c506ed30de6925104505e2026abbc93d9abbfe2aced"), looks := true }, kinds := [], alts := [], laidByText := true, laidKinds := [.data, .data, .data, .data, .sentinel, .sentinel, .pinned], laidTests := true, laidLooks := .later }
def DistFactorsCardSaid : Prop := Claim7.holds Tryz.pinned (.plain (OpenSpec.ofChange distFactorsSpec)) distFactorsCard

/-- THE TIED CARD OF 'privhouselaw08.DistMeasures'. -/
def distMeasuresCard : Claim7 := { stood := { row := distMeasuresRow, standIns := [], harness := (true, "5395951699d0e7c088c16c506ed30de6925104505e2026abbc93d9abbfe2aced"), looks := true }, kinds := [], alts := [], laidByText := true, laidKinds := [.data, .data, .data, .data, .sentinel, .sentinel, .pinned], laidTests := true, laidLooks := .later }
def DistMeasuresCardSaid : Prop := Claim7.holds Tryz.pinned (.plain (OpenSpec.ofChange distMeasuresSpec)) distMeasuresCard

/-- THE TIED CARD OF 'privhouselaw08.DistProducts'. -/
def distProductsCard : Claim7 := { stood := { row := distProductsRow, standIns := [], harness := (true, "5395951699d0e7c088c16c506ed30de6925104505e2026abbc93d9abbfe2aced"), looks := true }, kinds := [], alts := [], laidByText := true, laidKinds := [.data, .data, .data, .data, .sentinel, .sentinel, .pinned], laidTests := true, laidLooks := .later }
def DistProductsCardSaid : Prop := Claim7.holds Tryz.pinned (.plain (OpenSpec.ofChange distProductsSpec)) distProductsCard

/-- THE TIED CARD OF 'privhouselaw08.DistPushes'. -/
def distPushesCard : Claim7 := { stood := { row := distPushesRow, standIns := [], harness := (true, "5395951699d0e7c088c16c506ed30de6925104505e2026abbc93d9abbfe2aced"), looks := true }, kinds := [], alts := [], laidByText := true, laidKinds := [.data, .data, .data, .data, .sentinel, .sentinel, .pinned], laidTests := true, laidLooks := .later }
def DistPushesCardSaid : Prop := Claim7.holds Tryz.pinned (.plain (OpenSpec.ofChange distPushesSpec)) distPushesCard

/-- THE TIED CARD OF 'privhouselaw08.DistMixes'. -/
def distMixesCard : Claim7 := { stood := { row := distMixesRow, standIns := [], harness := (true, "5395951699d0e7c088c16c506ed30de6925104505e2026abbc93d9abbfe2aced"), looks := true }, kinds := [], alts := [], laidByText := true, laidKinds := [.data, .data, .data, .data, .sentinel, .sentinel, .pinned], laidTests := true, laidLooks := .later }
def DistMixesCardSaid : Prop := Claim7.holds Tryz.pinned (.plain (OpenSpec.ofChange distMixesSpec)) distMixesCard

/-- THE SECOND FORM's CARD OF 'privhouselaw08.DistMakes'. -/
def distMakesUptoCard : Claim7 := { stood := { row := distMakesUptoRow, standIns := [], harness := (true, "5395951699d0e7c088c16c506ed30de6925104505e2026abbc93d9abbfe2aced"), looks := true }, kinds := [], alts := [], laidByText := true, laidKinds := [.data, .data, .data, .data, .sentinel, .sentinel, .pinned], laidTests := true, laidLooks := .later }
def DistMakesUptoCardSaid : Prop := Claim7.holds Tryz.pinned (.plain (OpenSpec.upto distMakesSpec)) distMakesUptoCard

/-- THE SECOND FORM's CARD OF 'privhouselaw08.DistNames'. -/
def distNamesUptoCard : Claim7 := { stood := { row := distNamesUptoRow, standIns := [], harness := (true, "5395951699d0e7c088c16c506ed30de6925104505e2026abbc93d9abbfe2aced"), looks := true }, kinds := [], alts := [], laidByText := true, laidKinds := [.data, .data, .data, .data, .sentinel, .sentinel, .pinned], laidTests := true, laidLooks := .later }
def DistNamesUptoCardSaid : Prop := Claim7.holds Tryz.pinned (.plain (OpenSpec.upto distNamesSpec)) distNamesUptoCard

/-- THE SECOND FORM's CARD OF 'privhouselaw10.MomentDeltas'. -/
def momentDeltasUptoCard : Claim7 := { stood := { row := momentDeltasUptoRow, standIns := [], harness := (true, "5395951699d0e7c088c16c506ed30de6925104505e2026abbc93d9abbfe2aced"), looks := true }, kinds := [], alts := [], laidByText := true, laidKinds := [.data, .data, .data, .data, .sentinel, .sentinel, .pinned], laidTests := true, laidLooks := .later }
def MomentDeltasUptoCardSaid : Prop := Claim7.holds Tryz.pinned (.plain (OpenSpec.upto momentDeltasSpec)) momentDeltasUptoCard

/-- THE SECOND FORM's CARD OF 'privhouselaw10.MomentAdds'. -/
def momentAddsUptoCard : Claim7 := { stood := { row := momentAddsUptoRow, standIns := [], harness := (true, "5395951699d0e7c088c16c506ed30de6925104505e2026abbc93d9abbfe2aced"), looks := true }, kinds := [], alts := [], laidByText := true, laidKinds := [.data, .data, .data, .data, .sentinel, .sentinel, .pinned], laidTests := true, laidLooks := .later }
def MomentAddsUptoCardSaid : Prop := Claim7.holds Tryz.pinned (.plain (OpenSpec.upto momentAddsSpec)) momentAddsUptoCard

/-- THE SECOND FORM's CARD OF 'privhouselaw10.MomentPure'. -/
def momentPureUptoCard : Claim7 := { stood := { row := momentPureUptoRow, standIns := [], harness := (true, "5395951699d0e7c088c16c506ed30de6925104505e2026abbc93d9abbfe2aced"), looks := true }, kinds := [], alts := [], laidByText := true, laidKinds := [.data, .data, .data, .data, .sentinel, .sentinel, .pinned], laidTests := true, laidLooks := .later }
def MomentPureUptoCardSaid : Prop := Claim7.holds Tryz.pinned (.plain (OpenSpec.upto momentPureSpec)) momentPureUptoCard

/-- THE SECOND FORM's CARD OF 'privhouselaw09.LossAdds'. -/
def lossAddsUptoCard : Claim7 := { stood := { row := lossAddsUptoRow, standIns := [], harness := (true, "5395951699d0e7c088c16c506ed30de6925104505e2026abbc93d9abbfe2aced"), looks := true }, kinds := [], alts := [], laidByText := true, laidKinds := [.data, .data, .data, .data, .sentinel, .sentinel, .pinned], laidTests := true, laidLooks := .later }
def LossAddsUptoCardSaid : Prop := Claim7.holds Tryz.pinned (.plain (OpenSpec.upto lossAddsSpec)) lossAddsUptoCard

/-- THE SECOND FORM's CARD OF 'privhouselaw09.LossGroups'. -/
def lossGroupsUptoCard : Claim7 := { stood := { row := lossGroupsUptoRow, standIns := [], harness := (true, "5395951699d0e7c088c16c506ed30de6925104505e2026abbc93d9abbfe2aced"), looks := true }, kinds := [], alts := [], laidByText := true, laidKinds := [.data, .data, .data, .data, .sentinel, .sentinel, .pinned], laidTests := true, laidLooks := .later }
def LossGroupsUptoCardSaid : Prop := Claim7.holds Tryz.pinned (.plain (OpenSpec.upto lossGroupsSpec)) lossGroupsUptoCard

/-- THE SECOND FORM's CARD OF 'privhouselaw09.LossLates'. -/
def lossLatesUptoCard : Claim7 := { stood := { row := lossLatesUptoRow, standIns := [], harness := (true, "5395951699d0e7c088c16c506ed30de6925104505e2026abbc93d9abbfe2aced"), looks := true }, kinds := [], alts := [], laidByText := true, laidKinds := [.data, .data, .data, .data, .sentinel, .sentinel, .pinned], laidTests := true, laidLooks := .later }
def LossLatesUptoCardSaid : Prop := Claim7.holds Tryz.pinned (.plain (OpenSpec.upto lossLatesSpec)) lossLatesUptoCard

/-- THE SECOND FORM's CARD OF 'privhouselaw09.LossRests'. -/
def lossRestsUptoCard : Claim7 := { stood := { row := lossRestsUptoRow, standIns := [], harness := (true, "5395951699d0e7c088c16c506ed30de6925104505e2026abbc93d9abbfe2aced"), looks := true }, kinds := [], alts := [], laidByText := true, laidKinds := [.data, .data, .data, .data, .sentinel, .sentinel, .pinned], laidTests := true, laidLooks := .later }
def LossRestsUptoCardSaid : Prop := Claim7.holds Tryz.pinned (.plain (OpenSpec.upto lossRestsSpec)) lossRestsUptoCard

/-- THE SECOND FORM's CARD OF 'privhouselaw33.LedgerKnown'. -/
def ledgerKnownUptoCard : Claim7 := { stood := { row := ledgerKnownUptoRow, standIns := [], harness := (true, "5395951699d0e7c088c16c506ed30de6925104505e2026abbc93d9abbfe2aced"), looks := true }, kinds := [], alts := [], laidByText := true, laidKinds := [.data, .data, .data, .data, .sentinel, .sentinel, .pinned], laidTests := true, laidLooks := .later }
def LedgerKnownUptoCardSaid : Prop := Claim7.holds Tryz.pinned (.plain (OpenSpec.upto ledgerKnownSpec)) ledgerKnownUptoCard

/-- THE SECOND FORM's CARD OF 'privhouselaw33.LedgerNone'. -/
def ledgerNoneUptoCard : Claim7 := { stood := { row := ledgerNoneUptoRow, standIns := [], harness := (true, "5395951699d0e7c088c16c506ed30de6925104505e2026abbc93d9abbfe2aced"), looks := true }, kinds := [], alts := [], laidByText := true, laidKinds := [.data, .data, .data, .data, .sentinel, .sentinel, .pinned], laidTests := true, laidLooks := .later }
def LedgerNoneUptoCardSaid : Prop := Claim7.holds Tryz.pinned (.plain (OpenSpec.upto ledgerNoneSpec)) ledgerNoneUptoCard

/-- THE SECOND FORM's CARD OF 'privhouselaw08.DistSets'. -/
def distSetsUptoCard : Claim7 := { stood := { row := distSetsUptoRow, standIns := [], harness := (true, "5395951699d0e7c088c16c506ed30de6925104505e2026abbc93d9abbfe2aced"), looks := true }, kinds := [], alts := [], laidByText := true, laidKinds := [.data, .data, .data, .data, .sentinel, .sentinel, .pinned], laidTests := true, laidLooks := .later }
def DistSetsUptoCardSaid : Prop := Claim7.holds Tryz.pinned (.plain (OpenSpec.upto distSetsSpec)) distSetsUptoCard

/-- THE SECOND FORM's CARD OF 'privhouselaw08.DistTriangle'. -/
def distTriangleUptoCard : Claim7 := { stood := { row := distTriangleUptoRow, standIns := [], harness := (true, "5395951699d0e7c088c16c506ed30de6925104505e2026abbc93d9abbfe2aced"), looks := true }, kinds := [], alts := [], laidByText := true, laidKinds := [.data, .data, .data, .data, .sentinel, .sentinel, .pinned], laidTests := true, laidLooks := .later }
def DistTriangleUptoCardSaid : Prop := Claim7.holds Tryz.pinned (.plain (OpenSpec.upto distTriangleSpec)) distTriangleUptoCard

/-- THE SECOND FORM's CARD OF 'privhouselaw08.DistFactors'. -/
def distFactorsUptoCard : Claim7 := { stood := { row := distFactorsUptoRow, standIns := [], harness := (true, "5395951699d0e7c088c16c506ed30de6925104505e2026abbc93d9abbfe2aced"), looks := true }, kinds := [], alts := [], laidByText := true, laidKinds := [.data, .data, .data, .data, .sentinel, .sentinel, .pinned], laidTests := true, laidLooks := .later }
def DistFactorsUptoCardSaid : Prop := Claim7.holds Tryz.pinned (.plain (OpenSpec.upto distFactorsSpec)) distFactorsUptoCard

/-- THE SECOND FORM's CARD OF 'privhouselaw08.DistMeasures'. -/
def distMeasuresUptoCard : Claim7 := { stood := { row := distMeasuresUptoRow, standIns := [], harness := (true, "5395951699d0e7c088c16c506ed30de6925104505e2026abbc93d9abbfe2aced"), looks := true }, kinds := [], alts := [], laidByText := true, laidKinds := [.data, .data, .data, .data, .sentinel, .sentinel, .pinned], laidTests := true, laidLooks := .later }
def DistMeasuresUptoCardSaid : Prop := Claim7.holds Tryz.pinned (.plain (OpenSpec.upto distMeasuresSpec)) distMeasuresUptoCard

/-- THE SECOND FORM's CARD OF 'privhouselaw08.DistProducts'. -/
def distProductsUptoCard : Claim7 := { stood := { row := distProductsUptoRow, standIns := [], harness := (true, "5395951699d0e7c088c16c506ed30de6925104505e2026abbc93d9abbfe2aced"), looks := true }, kinds := [], alts := [], laidByText := true, laidKinds := [.data, .data, .data, .data, .sentinel, .sentinel, .pinned], laidTests := true, laidLooks := .later }
def DistProductsUptoCardSaid : Prop := Claim7.holds Tryz.pinned (.plain (OpenSpec.upto distProductsSpec)) distProductsUptoCard

/-- THE SECOND FORM's CARD OF 'privhouselaw08.DistPushes'. -/
def distPushesUptoCard : Claim7 := { stood := { row := distPushesUptoRow, standIns := [], harness := (true, "5395951699d0e7c088c16c506ed30de6925104505e2026abbc93d9abbfe2aced"), looks := true }, kinds := [], alts := [], laidByText := true, laidKinds := [.data, .data, .data, .data, .sentinel, .sentinel, .pinned], laidTests := true, laidLooks := .later }
def DistPushesUptoCardSaid : Prop := Claim7.holds Tryz.pinned (.plain (OpenSpec.upto distPushesSpec)) distPushesUptoCard

/-- THE SECOND FORM's CARD OF 'privhouselaw08.DistMixes'. -/
def distMixesUptoCard : Claim7 := { stood := { row := distMixesUptoRow, standIns := [], harness := (true, "5395951699d0e7c088c16c506ed30de6925104505e2026abbc93d9abbfe2aced"), looks := true }, kinds := [], alts := [], laidByText := true, laidKinds := [.data, .data, .data, .data, .sentinel, .sentinel, .pinned], laidTests := true, laidLooks := .later }
def DistMixesUptoCardSaid : Prop := Claim7.holds Tryz.pinned (.plain (OpenSpec.upto distMixesSpec)) distMixesUptoCard
end Rows
end Go.Proofs.YtigapglmipmbeaaGreatDoor
