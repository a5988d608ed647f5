/-
  DERIVED. GIVEN WITH THE SEED: THE CARDS: each row of YtjoifmnolmimkaaGreatDoorRows.lean that lists a variable, with what it lists TIED to the program's text (the seventh form; the later family's looks); each row that meets fmt, with fmt's text TOLD by the authors' own Lean function (tested against real Go, not proved from fmt's source: count such statements apart). THE CARD IS WHAT COUNTS. Prove the row's statement (the work); the ties are given (YtjoifmnolmimkaaGreatDoorTie.lean); close each card by the builder's one call (the guide's Derived/Test/ToyasCard.lean, 'card_holds'). Laid BY PROGRAM, IN A SANDBOX (cutbox-door.mjs). By AI agents, Wed Nov 11 2026. No macro, syntax, notation, axiom, sorry.
-/
import Derived.Test.YtjoifmnolmimkaaGreatDoorRows
import GoSem.ClaimSeven
namespace Go.Proofs.YtjoifmnolmimkaaGreatDoor
namespace Rows

/-- THE TIED CARD OF 'privhouselaw02.RatPowers'. -/
def ratPowersCard : Claim7 := { stood := { row := ratPowersRow, standIns := [], harness := (true, "06be770d38ee12eaa2e079cd70ced6ec7daaaae3b50515540d110b04f17028f9"), looks := true }, kinds := [], alts := [], laidByText := true, laidKinds := [.data, .data, .data, .data, .sentinel, .sentinel, .pinned], laidTests := true, laidLooks := .later }
def RatPowersCardSaid : Prop := Claim7.holds Tryz.pinned (.plain (OpenSpec.ofChange ratPowersSpec)) ratPowersCard

/-- THE TIED CARD OF 'privhouselaw02.RatField'. -/
def ratFieldCard : Claim7 := { stood := { row := ratFieldRow, standIns := [], harness := (true, "06be770d38ee12eaa2e079cd70ced6ec7daaaae3b50515540d110b04f17028f9"), looks := true }, kinds := [], alts := [], laidByText := true, laidKinds := [.data, .data, .data, .data, .sentinel, .sentinel, .pinned], laidTests := true, laidLooks := .later }
def RatFieldCardSaid : Prop := Claim7.holds Tryz.pinned (.plain (OpenSpec.ofChange ratFieldSpec)) ratFieldCard

/-- THE TIED CARD OF 'privhouselaw02.RatTexts'. -/
def ratTextsCard : Claim7 := { stood := { row := ratTextsRow, standIns := [], harness := (true, "06be770d38ee12eaa2e079cd70ced6ec7daaaae3b50515540d110b04f17028f9"), looks := true }, kinds := [], alts := [], laidByText := true, laidKinds := [.data, .data, .data, .data, .sentinel, .sentinel, .pinned], laidTests := true, laidLooks := .later }
def RatTextsCardSaid : Prop := Claim7.holds Tryz.pinned (.plain (OpenSpec.ofChange ratTextsSpec)) ratTextsCard

/-- THE TIED CARD OF 'privhouselaw02.RatOrder'. -/
def ratOrderCard : Claim7 := { stood := { row := ratOrderRow, standIns := [], harness := (true, "06be770d38ee12eaa2e079cd70ced6ec7daaaae3b50515540d110b04f17028f9"), looks := true }, kinds := [], alts := [], laidByText := true, laidKinds := [.data, .data, .data, .data, .sentinel, .sentinel, .pinned], laidTests := true, laidLooks := .later }
def RatOrderCardSaid : Prop := Claim7.holds Tryz.pinned (.plain (OpenSpec.ofChange ratOrderSpec)) ratOrderCard

/-- THE TIED CARD OF 'privhouselaw02.RatRounds'. -/
def ratRoundsCard : Claim7 := { stood := { row := ratRoundsRow, standIns := [], harness := (true, "06be770d38ee12eaa2e079cd70ced6ec7daaaae3b50515540d110b04f17028f9"), looks := true }, kinds := [], alts := [], laidByText := true, laidKinds := [.data, .data, .data, .data, .sentinel, .sentinel, .pinned], laidTests := true, laidLooks := .later }
def RatRoundsCardSaid : Prop := Claim7.holds Tryz.pinned (.plain (OpenSpec.ofChange ratRoundsSpec)) ratRoundsCard

/-- THE TIED CARD OF 'privhouselaw02.RatPairs'. -/
def ratPairsCard : Claim7 := { stood := { row := ratPairsRow, standIns := [], harness := (true, "06be770d38ee12eaa2e079cd70ced6ec7daaaae3b50515540d110b04f17028f9"), looks := true }, kinds := [], alts := [], laidByText := true, laidKinds := [.data, .data, .data, .data, .sentinel, .sentinel, .pinned], laidTests := true, laidLooks := .later }
def RatPairsCardSaid : Prop := Claim7.holds Tryz.pinned (.plain (OpenSpec.ofChange ratPairsSpec)) ratPairsCard

/-- THE TIED CARD OF 'privhouselaw02.RatOnes'. -/
def ratOnesCard : Claim7 := { stood := { row := ratOnesRow, standIns := [], harness := (true, "06be770d38ee12eaa2e079cd70ced6ec7daaaae3b50515540d110b04f17028f9"), looks := true }, kinds := [], alts := [], laidByText := true, laidKinds := [.data, .data, .data, .data, .sentinel, .sentinel, .pinned], laidTests := true, laidLooks := .later }
def RatOnesCardSaid : Prop := Claim7.holds Tryz.pinned (.plain (OpenSpec.ofChange ratOnesSpec)) ratOnesCard

/-- THE TIED CARD OF 'privhouselaw02.RatNames'. -/
def ratNamesCard : Claim7 := { stood := { row := ratNamesRow, standIns := [], harness := (true, "06be770d38ee12eaa2e079cd70ced6ec7daaaae3b50515540d110b04f17028f9"), looks := true }, kinds := [], alts := [], laidByText := true, laidKinds := [.data, .data, .data, .data, .sentinel, .sentinel, .pinned], laidTests := true, laidLooks := .later }
def RatNamesCardSaid : Prop := Claim7.holds Tryz.pinned (.plain (OpenSpec.ofChange ratNamesSpec)) ratNamesCard

/-- THE SECOND FORM's CARD OF 'privhouselaw02.RatPowers'. -/
def ratPowersUptoCard : Claim7 := { stood := { row := ratPowersUptoRow, standIns := [], harness := (true, "06be770d38ee12eaa2e079cd70ced6ec7daaaae3b50515540d110b04f17028f9"), looks := true }, kinds := [], alts := [], laidByText := true, laidKinds := [.data, .data, .data, .data, .sentinel, .sentinel, .pinned], laidTests := true, laidLooks := .later }
def RatPowersUptoCardSaid : Prop := Claim7.holds Tryz.pinned (.plain (OpenSpec.upto ratPowersSpec)) ratPowersUptoCard

/-- THE SECOND FORM's CARD OF 'privhouselaw02.RatField'. -/
def ratFieldUptoCard : Claim7 := { stood := { row := ratFieldUptoRow, standIns := [], harness := (true, "06be770d38ee12eaa2e079cd70ced6ec7daaaae3b50515540d110b04f17028f9"), looks := true }, kinds := [], alts := [], laidByText := true, laidKinds := [.data, .data, .data, .data, .sentinel, .sentinel, .pinned], laidTests := true, laidLooks := .later }
def RatFieldUptoCardSaid : Prop := Claim7.holds Tryz.pinned (.plain (OpenSpec.upto ratFieldSpec)) ratFieldUptoCard

/-- THE SECOND FORM's CARD OF 'privhouselaw02.RatTexts'. -/
def ratTextsUptoCard : Claim7 := { stood := { row := ratTextsUptoRow, standIns := [], harness := (true, "06be770d38ee12eaa2e079cd70ced6ec7daaaae3b50515540d110b04f17028f9"), looks := true }, kinds := [], alts := [], laidByText := true, laidKinds := [.data, .data, .data, .data, .sentinel, .sentinel, .pinned], laidTests := true, laidLooks := .later }
def RatTextsUptoCardSaid : Prop := Claim7.holds Tryz.pinned (.plain (OpenSpec.upto ratTextsSpec)) ratTextsUptoCard

/-- THE SECOND FORM's CARD OF 'privhouselaw02.RatOrder'. -/
def ratOrderUptoCard : Claim7 := { stood := { row := ratOrderUptoRow, standIns := [], harness := (true, "06be770d38ee12eaa2e079cd70ced6ec7daaaae3b50515540d110b04f17028f9"), looks := true }, kinds := [], alts := [], laidByText := true, laidKinds := [.data, .data, .data, .data, .sentinel, .sentinel, .pinned], laidTests := true, laidLooks := .later }
def RatOrderUptoCardSaid : Prop := Claim7.holds Tryz.pinned (.plain (OpenSpec.upto ratOrderSpec)) ratOrderUptoCard

/-- THE SECOND FORM's CARD OF 'privhouselaw02.RatRounds'. -/
def ratRoundsUptoCard : Claim7 := { stood := { row := ratRoundsUptoRow, standIns := [], harness := (true, "06be770d38ee12eaa2e079cd70ced6ec7daaaae3b50515540d110b04f17028f9"), looks := true }, kinds := [], alts := [], laidByText := true, laidKinds := [.data, .data, .data, .data, .sentinel, .sentinel, .pinned], laidTests := true, laidLooks := .later }
def RatRoundsUptoCardSaid : Prop := Claim7.holds Tryz.pinned (.plain (OpenSpec.upto ratRoundsSpec)) ratRoundsUptoCard

/-- THE SECOND FORM's CARD OF 'privhouselaw02.RatPairs'. -/
def ratPairsUptoCard : Claim7 := { stood := { row := ratPairsUptoRow, standIns := [], harness := (true, "06be770d38ee12eaa2e079cd70ced6ec7daaaae3b50515540d110b04f17028f9"), looks := true }, kinds := [], alts := [], laidByText := true, laidKinds := [.data, .data, .data, .data, .sentinel, .sentinel, .pinned], laidTests := true, laidLooks := .later }
def RatPairsUptoCardSaid : Prop := Claim7.holds Tryz.pinned (.plain (OpenSpec.upto ratPairsSpec)) ratPairsUptoCard

/-- THE SECOND FORM's CARD OF 'privhouselaw02.RatOnes'. -/
def ratOnesUptoCard : Claim7 := { stood := { row := ratOnesUptoRow, standIns := [], harness := (true, "06be770d38ee12eaa2e079cd70ced6ec7daaaae3b50515540d110b04f17028f9"), looks := true }, kinds := [], alts := [], laidByText := true, laidKinds := [.data, .data, .data, .data, .sentinel, .sentinel, .pinned], laidTests := true, laidLooks := .later }
def RatOnesUptoCardSaid : Prop := Claim7.holds Tryz.pinned (.plain (OpenSpec.upto ratOnesSpec)) ratOnesUptoCard

/-- THE SECOND FORM's CARD OF 'privhouselaw02.RatNames'. -/
def ratNamesUptoCard : Claim7 := { stood := { row := ratNamesUptoRow, standIns := [], harness := (true, "06be770d38ee12eaa2e079cd70ced6ec7daaaae3b50515540d110b04f17028f9"), looks := true }, kinds := [], alts := [], laidByText := true, laidKinds := [.data, .data, .data, .data, .sentinel, .sentinel, .pinned], laidTests := true, laidLooks := .later }
def RatNamesUptoCardSaid : Prop := Claim7.holds Tryz.pinned (.plain (OpenSpec.upto ratNamesSpec)) ratNamesUptoCard
end Rows
end Go.Proofs.YtjoifmnolmimkaaGreatDoor
