/-
  DERIVED. GIVEN WITH THE SEED: THE CARDS: each row of YtlocafmglficnaaGreatDoorRows.lean that lists a variable, with what it lists TIED to the program's text (the seventh form; the later family's looks); each row that meets fmt, with fmt's text TOLD by the authors' own Lean function (tested against real Go, not proved from fmt's source: count such statements apart). THE CARD IS WHAT COUNTS. Prove the row's statement (the work); the ties are given (YtlocafmglficnaaGreatDoorTie.lean); close each card by the builder's one call (the guide's Derived/Test/ToyasCard.lean, 'card_holds'). Laid BY PROGRAM, IN A SANDBOX (cutbox-door.mjs). By AI agents, Wed Nov 11 2026. No macro, syntax, notation, axiom, sorry.
-/
import Derived.Test.YtlocafmglficnaaGreatDoorRows
import GoSem.ClaimSeven
namespace Go.Proofs.YtlocafmglficnaaGreatDoor
namespace Rows

/-- THE TIED CARD OF 'privhouselaw12.TableCompares'. -/
def tableComparesCard : Claim7 := { stood := { row := tableComparesRow, standIns := [], harness := (true, "d9a92ec55f08dbbea7c466e48122a4b337fa1876b091d995e386fc672f2c0b98"), looks := false }, kinds := [], alts := [], laidByText := true, laidKinds := [.widerDeep], laidTests := true, laidLooks := .later }
def TableComparesCardSaid : Prop := Claim7.holds Tryz.pinned (.plain (OpenSpec.ofChange tableComparesSpec)) tableComparesCard

/-- THE TIED CARD OF 'privhouselaw12.TableChecks'. -/
def tableChecksCard : Claim7 := { stood := { row := tableChecksRow, standIns := [], harness := (true, "d9a92ec55f08dbbea7c466e48122a4b337fa1876b091d995e386fc672f2c0b98"), looks := false }, kinds := [], alts := [], laidByText := true, laidKinds := [.widerDeep], laidTests := true, laidLooks := .later }
def TableChecksCardSaid : Prop := Claim7.holds Tryz.pinned (.plain (OpenSpec.ofChange tableChecksSpec)) tableChecksCard

/-- THE SECOND FORM's CARD OF 'privhouselaw12.TableCompares'. -/
def tableComparesUptoCard : Claim7 := { stood := { row := tableComparesUptoRow, standIns := [], harness := (true, "d9a92ec55f08dbbea7c466e48122a4b337fa1876b091d995e386fc672f2c0b98"), looks := false }, kinds := [], alts := [], laidByText := true, laidKinds := [.widerDeep], laidTests := true, laidLooks := .later }
def TableComparesUptoCardSaid : Prop := Claim7.holds Tryz.pinned (.plain (OpenSpec.upto tableComparesSpec)) tableComparesUptoCard

/-- THE SECOND FORM's CARD OF 'privhouselaw12.TableChecks'. -/
def tableChecksUptoCard : Claim7 := { stood := { row := tableChecksUptoRow, standIns := [], harness := (true, "d9a92ec55f08dbbea7c466e48122a4b337fa1876b091d995e386fc672f2c0b98"), looks := false }, kinds := [], alts := [], laidByText := true, laidKinds := [.widerDeep], laidTests := true, laidLooks := .later }
def TableChecksUptoCardSaid : Prop := Claim7.holds Tryz.pinned (.plain (OpenSpec.upto tableChecksSpec)) tableChecksUptoCard
end Rows
end Go.Proofs.YtlocafmglficnaaGreatDoor
