/-
  DERIVED. GIVEN WITH THE SEED: THE CARDS: each row of YtbfhonhjejeaiaaGreatDoorRows.lean that lists a variable, with what it lists TIED to the program's text (the seventh form; the later family's looks); each row that meets fmt, with fmt's text TOLD by the authors' own Lean function (tested against real Go, not proved from fmt's source: count such statements apart). THE CARD IS WHAT COUNTS. Prove the row's statement (the work); the ties are given (YtbfhonhjejeaiaaGreatDoorTie.lean); close each card by the builder's one call (the guide's Derived/Test/ToyasCard.lean, 'card_holds'). Laid BY PROGRAM, IN A SANDBOX (cutbox-door.mjs). By AI agents, Wed Nov 11 2026. No macro, syntax, notation, axiom, sorry.
-/
import Derived.Test.YtbfhonhjejeaiaaGreatDoorRows
import GoSem.ClaimSeven
namespace Go.Proofs.YtbfhonhjejeaiaaGreatDoor
namespace Rows

/-- THE TIED CARD OF 'privhouselaw09.LossCalls'. -/
def lossCallsCard : Claim7 := { stood := { row := lossCallsRow, standIns := [], harness := (true, "0940058a194906bba9aa0a8367655037e744b02576d1e8ef1774f3e1afc5de25"), looks := true }, kinds := [], alts := [], laidByText := true, laidKinds := [.data, .data, .data, .data, .sentinel, .sentinel, .pinned], laidTests := true, laidLooks := .later }
def LossCallsCardSaid : Prop := Claim7.holds Tryz.pinned (.plain (OpenSpec.ofChange lossCallsSpec)) lossCallsCard

/-- THE TIED CARD OF 'privhouselaw09.LossOrder'. -/
def lossOrderCard : Claim7 := { stood := { row := lossOrderRow, standIns := [], harness := (true, "0940058a194906bba9aa0a8367655037e744b02576d1e8ef1774f3e1afc5de25"), looks := true }, kinds := [], alts := [], laidByText := true, laidKinds := [.data, .data, .data, .data, .sentinel, .sentinel, .pinned], laidTests := true, laidLooks := .later }
def LossOrderCardSaid : Prop := Claim7.holds Tryz.pinned (.plain (OpenSpec.ofChange lossOrderSpec)) lossOrderCard

/-- THE TIED CARD OF 'privhouselaw09.LossKeeps'. -/
def lossKeepsCard : Claim7 := { stood := { row := lossKeepsRow, standIns := [], harness := (true, "0940058a194906bba9aa0a8367655037e744b02576d1e8ef1774f3e1afc5de25"), looks := true }, kinds := [], alts := [], laidByText := true, laidKinds := [.data, .data, .data, .data, .sentinel, .sentinel, .pinned], laidTests := true, laidLooks := .later }
def LossKeepsCardSaid : Prop := Claim7.holds Tryz.pinned (.plain (OpenSpec.ofChange lossKeepsSpec)) lossKeepsCard

/-- THE TIED CARD OF 'privhouselaw09.LossNames'. -/
def lossNamesCard : Claim7 := { stood := { row := lossNamesRow, standIns := [], harness := (true, "0940058a194906bba9aa0a8367655037e744b02576d1e8ef1774f3e1afc5de25"), looks := true }, kinds := [], alts := [], laidByText := true, laidKinds := [.data, .data, .data, .data, .sentinel, .sentinel, .pinned], laidTests := true, laidLooks := .later }
def LossNamesCardSaid : Prop := Claim7.holds Tryz.pinned (.plain (OpenSpec.ofChange lossNamesSpec)) lossNamesCard

/-- THE TIED CARD OF 'privhouselaw10.MomentBest'. -/
def momentBestCard : Claim7 := { stood := { row := momentBestRow, standIns := [], harness := (true, "0940058a194906bba9aa0a8367655037e744b02576d1e8ef1774f3e1afc5de25"), looks := true }, kinds := [], alts := [], laidByText := true, laidKinds := [.data, .data, .data, .data, .sentinel, .sentinel, .pinned], laidTests := true, laidLooks := .later }
def MomentBestCardSaid : Prop := Claim7.holds Tryz.pinned (.plain (OpenSpec.ofChange momentBestSpec)) momentBestCard

/-- THE TIED CARD OF 'privhouselaw10.MomentOrder'. -/
def momentOrderCard : Claim7 := { stood := { row := momentOrderRow, standIns := [], harness := (true, "0940058a194906bba9aa0a8367655037e744b02576d1e8ef1774f3e1afc5de25"), looks := true }, kinds := [], alts := [], laidByText := true, laidKinds := [.data, .data, .data, .data, .sentinel, .sentinel, .pinned], laidTests := true, laidLooks := .later }
def MomentOrderCardSaid : Prop := Claim7.holds Tryz.pinned (.plain (OpenSpec.ofChange momentOrderSpec)) momentOrderCard

/-- THE TIED CARD OF 'privhouselaw10.MomentNames'. -/
def momentNamesCard : Claim7 := { stood := { row := momentNamesRow, standIns := [], harness := (true, "0940058a194906bba9aa0a8367655037e744b02576d1e8ef1774f3e1afc5de25"), looks := true }, kinds := [], alts := [], laidByText := true, laidKinds := [.data, .data, .data, .data, .sentinel, .sentinel, .pinned], laidTests := true, laidLooks := .later }
def MomentNamesCardSaid : Prop := Claim7.holds Tryz.pinned (.plain (OpenSpec.ofChange momentNamesSpec)) momentNamesCard

/-- THE TIED CARD OF 'privhouselaw10.MomentCalls'. -/
def momentCallsCard : Claim7 := { stood := { row := momentCallsRow, standIns := [], harness := (true, "0940058a194906bba9aa0a8367655037e744b02576d1e8ef1774f3e1afc5de25"), looks := true }, kinds := [], alts := [], laidByText := true, laidKinds := [.data, .data, .data, .data, .sentinel, .sentinel, .pinned], laidTests := true, laidLooks := .later }
def MomentCallsCardSaid : Prop := Claim7.holds Tryz.pinned (.plain (OpenSpec.ofChange momentCallsSpec)) momentCallsCard

/-- THE TIED CARD OF 'privhouselaw33.LedgerKnown'. -/
def ledgerKnownCard : Claim7 := { stood := { row := ledgerKnownRow, standIns := [], harness := (true, "0940058a194906bba9aa0a8367655037e744b02576d1e8ef1774f3e1afc5de25"), looks := true }, kinds := [], alts := [], laidByText := true, laidKinds := [.data, .data, .data, .data, .sentinel, .sentinel, .pinned], laidTests := true, laidLooks := .later }
def LedgerKnownCardSaid : Prop := Claim7.holds Tryz.pinned (.plain (OpenSpec.ofChange ledgerKnownSpec)) ledgerKnownCard

/-- THE TIED CARD OF 'privhouselaw33.LedgerNone'. -/
def ledgerNoneCard : Claim7 := { stood := { row := ledgerNoneRow, standIns := [], harness := (true, "0940058a194906bba9aa0a8367655037e744b02576d1e8ef1774f3e1afc5de25"), looks := true }, kinds := [], alts := [], laidByText := true, laidKinds := [.data, .data, .data, .data, .sentinel, .sentinel, .pinned], laidTests := true, laidLooks := .later }
def LedgerNoneCardSaid : Prop := Claim7.holds Tryz.pinned (.plain (OpenSpec.ofChange ledgerNoneSpec)) ledgerNoneCard

/-- THE SECOND FORM's CARD OF 'privhouselaw09.LossCalls'. -/
def lossCallsUptoCard : Claim7 := { stood := { row := lossCallsUptoRow, standIns := [], harness := (true, "0940058a194906bba9aa0a8367655037e744b02576d1e8ef1774f3e1afc5de25"), looks := true }, kinds := [], alts := [], laidByText := true, laidKinds := [.data, .data, .data, .data, .sentinel, .sentinel, .pinned], laidTests := true, laidLooks := .later }
def LossCallsUptoCardSaid : Prop := Claim7.holds Tryz.pinned (.plain (OpenSpec.upto lossCallsSpec)) lossCallsUptoCard

/-- THE SECOND FORM's CARD OF 'privhouselaw09.LossOrder'. -/
def lossOrderUptoCard : Claim7 := { stood := { row := lossOrderUptoRow, standIns := [], harness := (true, "0940058a194906bba9aa0a8367655037e744b02576d1e8ef1774f3e1afc5de25"), looks := true }, kinds := [], alts := [], laidByText := true, laidKinds := [.data, .data, .data, .data, .sentinel, .sentinel, .pinned], laidTests := true, laidLooks := .later }
def LossOrderUptoCardSaid : Prop := Claim7.holds Tryz.pinned (.plain (OpenSpec.upto lossOrderSpec)) lossOrderUptoCard

/-- THE SECOND FORM's CARD OF 'privhouselaw09.LossKeeps'. -/
def lossKeepsUptoCard : Claim7 := { stood := { row := lossKeepsUptoRow, standIns := [], harness := (true, "0940058a194906bba9aa0a8367655037e744b02576d1e8ef1774f3e1afc5de25"), looks := true }, kinds := [], alts := [], laidByText := true, laidKinds := [.data, .data, .data, .data, .sentinel, .sentinel, .pinned], laidTests := true, laidLooks := .later }
def LossKeepsUptoCardSaid : Prop := Claim7.holds Tryz.pinned (.plain (OpenSpec.upto lossKeepsSpec)) lossKeepsUptoCard

/-- THE SECOND FORM's CARD OF 'privhouselaw09.LossNames'. -/
def lossNamesUptoCard : Claim7 := { stood := { row := lossNamesUptoRow, standIns := [], harness := (true, "0940058a194906bba9aa0a8367655037e744b02576d1e8ef1774f3e1afc5de25"), looks := true }, kinds := [], alts := [], laidByText := true, laidKinds := [.data, .data, .data, .data, .sentinel, .sentinel, .pinned], laidTests := true, laidLooks := .later }
def LossNamesUptoCardSaid : Prop := Claim7.holds Tryz.pinned (.plain (OpenSpec.upto lossNamesSpec)) lossNamesUptoCard

/-- THE SECOND FORM's CARD OF 'privhouselaw10.MomentBest'. -/
def momentBestUptoCard : Claim7 := { stood := { row := momentBestUptoRow, standIns := [], harness := (true, "0940058a194906bba9aa0a8367655037e744b02576d1e8ef1774f3e1afc5de25"), looks := true }, kinds := [], alts := [], laidByText := true, laidKinds := [.data, .data, .data, .data, .sentinel, .sentinel, .pinned], laidTests := true, laidLooks := .later }
def MomentBestUptoCardSaid : Prop := Claim7.holds Tryz.pinned (.plain (OpenSpec.upto momentBestSpec)) momentBestUptoCard

/-- THE SECOND FORM's CARD OF 'privhouselaw10.MomentOrder'. -/
def momentOrderUptoCard : Claim7 := { stood := { row := momentOrderUptoRow, standIns := [], harness := (true, "0940058a194906bba9aa0a8367655037e744b02576d1e8ef1774f3e1afc5de25"), looks := true }, kinds := [], alts := [], laidByText := true, laidKinds := [.data, .data, .data, .data, .sentinel, .sentinel, .pinned], laidTests := true, laidLooks := .later }
def MomentOrderUptoCardSaid : Prop := Claim7.holds Tryz.pinned (.plain (OpenSpec.upto momentOrderSpec)) momentOrderUptoCard

/-- THE SECOND FORM's CARD OF 'privhouselaw10.MomentNames'. -/
def momentNamesUptoCard : Claim7 := { stood := { row := momentNamesUptoRow, standIns := [], harness := (true, "0940058a194906bba9aa0a8367655037e744b02576d1e8ef1774f3e1afc5de25"), looks := true }, kinds := [], alts := [], laidByText := true, laidKinds := [.data, .data, .data, .data, .sentinel, .sentinel, .pinned], laidTests := true, laidLooks := .later }
def MomentNamesUptoCardSaid : Prop := Claim7.holds Tryz.pinned (.plain (OpenSpec.upto momentNamesSpec)) momentNamesUptoCard

/-- THE SECOND FORM's CARD OF 'privhouselaw10.MomentCalls'. -/
def momentCallsUptoCard : Claim7 := { stood := { row := momentCallsUptoRow, standIns := [], harness := (true, "0940058a194906bba9aa0a8367655037e744b02576d1e8ef1774f3e1afc5de25"), looks := true }, kinds := [], alts := [], laidByText := true, laidKinds := [.data, .data, .data, .data, .sentinel, .sentinel, .pinned], laidTests := true, laidLooks := .later }
def MomentCallsUptoCardSaid : Prop := Claim7.holds Tryz.pinned (.plain (OpenSpec.upto momentCallsSpec)) momentCallsUptoCard

/-- THE SECOND FORM's CARD OF 'privhouselaw33.LedgerKnown'. -/
def ledgerKnownUptoCard : Claim7 := { stood := { row := ledgerKnownUptoRow, standIns := [], harness := (true, "0940058a194906bba9aa0a8367655037e744b02576d1e8ef1774f3e1afc5de25"), looks := true }, kinds := [], alts := [], laidByText := true, laidKinds := [.data, .data, .data, .data, .sentinel, .sentinel, .pinned], laidTests := true, laidLooks := .later }
def LedgerKnownUptoCardSaid : Prop := Claim7.holds Tryz.pinned (.plain (OpenSpec.upto ledgerKnownSpec)) ledgerKnownUptoCard

/-- THE SECOND FORM's CARD OF 'privhouselaw33.LedgerNone'. -/
def ledgerNoneUptoCard : Claim7 := { stood := { row := ledgerNoneUptoRow, standIns := [], harness := (true, "0940058a194906bba9aa0a8367655037e744b02576d1e8ef1774f3e1afc5de25"), looks := true }, kinds := [], alts := [], laidByText := true, laidKinds := [.data, .data, .data, .data, .sentinel, .sentinel, .pinned], laidTests := true, laidLooks := .later }
def LedgerNoneUptoCardSaid : Prop := Claim7.holds Tryz.pinned (.plain (OpenSpec.upto ledgerNoneSpec)) ledgerNoneUptoCard
end Rows
end Go.Proofs.YtbfhonhjejeaiaaGreatDoor
