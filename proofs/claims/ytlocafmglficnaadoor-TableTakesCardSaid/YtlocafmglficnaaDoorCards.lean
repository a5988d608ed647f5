/-
  DERIVED. GIVEN WITH THE SEED: THE CARDS: each row of YtlocafmglficnaaDoorRows.lean that lists a variable, with what it lists TIED to the program's text (the seventh form; the later family's looks); each row that meets fmt, with fmt's text TOLD by the authors' own Lean function (tested against real Go, not proved from fmt's source: count such statements apart). THE CARD IS WHAT COUNTS. Prove the row's statement (the work); the ties are given (YtlocafmglficnaaDoorTie.lean); close each card by the builder's one call (the guide's Derived/Test/ToyasCard.lean, 'card_holds'). Laid BY PROGRAM, IN A SANDBOX (cutbox-door.mjs). By AI agents, Wed Nov 11 2026. No macro, syntax, notation, axiom, sorry.
-/
import Derived.Test.YtlocafmglficnaaDoorRows
import GoSem.ClaimSeven
namespace Go.Proofs.YtlocafmglficnaaDoor
namespace Rows

/-- THE TIED CARD OF 'privhouselaw12.TableRows'. -/
def tableRowsCard : Claim7 := { stood := { row := tableRowsRow, standIns := [], harness := (true, "69526179d49c5937aa8cb23d5f81938dcd02c02e0d787397cc5f0cf40c534467"), looks := false }, kinds := [], alts := [], laidByText := true, laidKinds := [.widerDeep], laidTests := true, laidLooks := .later }
def TableRowsCardSaid : Prop := Claim7.holds Tryd.pinned (.plain (OpenSpec.ofChange tableRowsSpec)) tableRowsCard

/-- THE TIED CARD OF 'privhouselaw12.TableOwners'. -/
def tableOwnersCard : Claim7 := { stood := { row := tableOwnersRow, standIns := [], harness := (true, "69526179d49c5937aa8cb23d5f81938dcd02c02e0d787397cc5f0cf40c534467"), looks := false }, kinds := [], alts := [], laidByText := true, laidKinds := [.widerDeep], laidTests := true, laidLooks := .later }
def TableOwnersCardSaid : Prop := Claim7.holds Tryd.pinned (.plain (OpenSpec.ofChange tableOwnersSpec)) tableOwnersCard

/-- THE TIED CARD OF 'privhouselaw12.TableKnown'. -/
def tableKnownCard : Claim7 := { stood := { row := tableKnownRow, standIns := [], harness := (true, "69526179d49c5937aa8cb23d5f81938dcd02c02e0d787397cc5f0cf40c534467"), looks := false }, kinds := [], alts := [], laidByText := true, laidKinds := [.widerDeep], laidTests := true, laidLooks := .later }
def TableKnownCardSaid : Prop := Claim7.holds Tryd.pinned (.plain (OpenSpec.ofChange tableKnownSpec)) tableKnownCard

/-- THE TIED CARD OF 'privhouselaw12.TableFinds'. -/
def tableFindsCard : Claim7 := { stood := { row := tableFindsRow, standIns := [], harness := (true, "69526179d49c5937aa8cb23d5f81938dcd02c02e0d787397cc5f0cf40c534467"), looks := false }, kinds := [], alts := [], laidByText := true, laidKinds := [.widerDeep], laidTests := true, laidLooks := .later }
def TableFindsCardSaid : Prop := Claim7.holds Tryd.pinned (.plain (OpenSpec.ofChange tableFindsSpec)) tableFindsCard

/-- THE TIED CARD OF 'privhouselaw12.TableCopies'. -/
def tableCopiesCard : Claim7 := { stood := { row := tableCopiesRow, standIns := [], harness := (true, "69526179d49c5937aa8cb23d5f81938dcd02c02e0d787397cc5f0cf40c534467"), looks := false }, kinds := [], alts := [], laidByText := true, laidKinds := [.widerDeep], laidTests := true, laidLooks := .later }
def TableCopiesCardSaid : Prop := Claim7.holds Tryd.pinned (.plain (OpenSpec.ofChange tableCopiesSpec)) tableCopiesCard

/-- THE TIED CARD OF 'privhouselaw12.TableTakes'. -/
def tableTakesCard : Claim7 := { stood := { row := tableTakesRow, standIns := [], harness := (true, "69526179d49c5937aa8cb23d5f81938dcd02c02e0d787397cc5f0cf40c534467"), looks := false }, kinds := [], alts := [], laidByText := true, laidKinds := [.widerDeep], laidTests := true, laidLooks := .later }
def TableTakesCardSaid : Prop := Claim7.holds Tryd.pinned (.plain (OpenSpec.ofChange tableTakesSpec)) tableTakesCard

/-- THE SECOND FORM's CARD OF 'privhouselaw12.TableRows'. -/
def tableRowsUptoCard : Claim7 := { stood := { row := tableRowsUptoRow, standIns := [], harness := (true, "69526179d49c5937aa8cb23d5f81938dcd02c02e0d787397cc5f0cf40c534467"), looks := false }, kinds := [], alts := [], laidByText := true, laidKinds := [.widerDeep], laidTests := true, laidLooks := .later }
def TableRowsUptoCardSaid : Prop := Claim7.holds Tryd.pinned (.plain (OpenSpec.upto tableRowsSpec)) tableRowsUptoCard

/-- THE SECOND FORM's CARD OF 'privhouselaw12.TableOwners'. -/
def tableOwnersUptoCard : Claim7 := { stood := { row := tableOwnersUptoRow, standIns := [], harness := (true, "69526179d49c5937aa8cb23d5f81938dcd02c02e0d787397cc5f0cf40c534467"), looks := false }, kinds := [], alts := [], laidByText := true, laidKinds := [.widerDeep], laidTests := true, laidLooks := .later }
def TableOwnersUptoCardSaid : Prop := Claim7.holds Tryd.pinned (.plain (OpenSpec.upto tableOwnersSpec)) tableOwnersUptoCard

/-- THE SECOND FORM's CARD OF 'privhouselaw12.TableKnown'. -/
def tableKnownUptoCard : Claim7 := { stood := { row := tableKnownUptoRow, standIns := [], harness := (true, "69526179d49c5937aa8cb23d5f81938dcd02c02e0d787397cc5f0cf40c534467"), looks := false }, kinds := [], alts := [], laidByText := true, laidKinds := [.widerDeep], laidTests := true, laidLooks := .later }
def TableKnownUptoCardSaid : Prop := Claim7.holds Tryd.pinned (.plain (OpenSpec.upto tableKnownSpec)) tableKnownUptoCard

/-- THE SECOND FORM's CARD OF 'privhouselaw12.TableFinds'. -/
def tableFindsUptoCard : Claim7 := { stood := { row := tableFindsUptoRow, standIns := [], harness := (true, "69526179d49c5937aa8cb23d5f81938dcd02c02e0d787397cc5f0cf40c534467"), looks := false }, kinds := [], alts := [], laidByText := true, laidKinds := [.widerDeep], laidTests := true, laidLooks := .later }
def TableFindsUptoCardSaid : Prop := Claim7.holds Tryd.pinned (.plain (OpenSpec.upto tableFindsSpec)) tableFindsUptoCard

/-- THE SECOND FORM's CARD OF 'privhouselaw12.TableCopies'. -/
def tableCopiesUptoCard : Claim7 := { stood := { row := tableCopiesUptoRow, standIns := [], harness := (true, "69526179d49c5937aa8cb23d5f81938dcd02c02e0d787397cc5f0cf40c534467"), looks := false }, kinds := [], alts := [], laidByText := true, laidKinds := [.widerDeep], laidTests := true, laidLooks := .later }
def TableCopiesUptoCardSaid : Prop := Claim7.holds Tryd.pinned (.plain (OpenSpec.upto tableCopiesSpec)) tableCopiesUptoCard

/-- THE SECOND FORM's CARD OF 'privhouselaw12.TableTakes'. -/
def tableTakesUptoCard : Claim7 := { stood := { row := tableTakesUptoRow, standIns := [], harness := (true, "69526179d49c5937aa8cb23d5f81938dcd02c02e0d787397cc5f0cf40c534467"), looks := false }, kinds := [], alts := [], laidByText := true, laidKinds := [.widerDeep], laidTests := true, laidLooks := .later }
def TableTakesUptoCardSaid : Prop := Claim7.holds Tryd.pinned (.plain (OpenSpec.upto tableTakesSpec)) tableTakesUptoCard
end Rows
end Go.Proofs.YtlocafmglficnaaDoor
