/-
  NARROWER THAN 'FOR EVERY INPUT', by the rows' own cells (each row's printed sentence says how): TableRows: laid · TableOwners: laid · TableKnown: laid · TableFinds: laid · TableCopies: laid · TableTakes: laid.
  DERIVED. THE GIVEN ROWS OF THIS SEAT. 6 by the template 'for every input the law returns true; each argument reads behind the call as it read before'; 0 by the template 'total and deterministic' (their statements: YtlocafmglficnaaDoorTotals.lean).
  GIVEN WITH THE SEED: the statements are not yours to turn. If you find one false, say at which input.
  Laid BY PROGRAM, IN A SANDBOX (cutbox-rows.mjs): the forced cells as the released guide's own fill.sh prints them over the translation f3032e1e9343e244… (all of the seat's roots in one cut). By AI agents, Wed Nov 11 2026. No macro, syntax, notation, axiom, sorry.
-/
import Derived.Test.YtlocafmglficnaaDoorChecked
import GoSem.Claim
import GoSem.ClaimJoined
import GoSem.ClaimMapViews
import Derived.JoinedTies
import Derived.KernelRfl
namespace Go.Proofs.YtlocafmglficnaaDoor
/- THE CELL 'sum', in the pinned program and in every row, IS THE sha256 OF THE DUMP (.gsa) THAT YtlocafmglficnaaDoorProg.lean LOADS. Nothing in Lean hashes anything: it is a label: what it is worth is what the hold of that sum in a sandbox is worth. -/
noncomputable def Tryd.pinned : Pinned := { name := "ytlocafmglficnaadoor", sum := "f3032e1e9343e244ef5f396a87cbbf8799bb1b4fc61b99fcf219a051eb951504", checked := Tryd.checked }
namespace Rows
def none {H : Type} : Left H := { results := [], args := [] }

/- WHAT THE LISTED PACKAGE-LEVEL VARIABLES READ AS WHEN THE CALL BEGINS. Each datum BY PROGRAM (the guide's laid-datum.mjs) off the statement by which the dump's own 'gosem.cut.vars' lays the variable. In a bare row this is a premise. The card (YtlocafmglficnaaDoorCards.lean) ties it to the program's text. -/
def laid_privhouse_schema_reserved {H : Type} : DataW H := .agg [.lit (.string [97, 98, 111, 118, 101]), .lit (.string [97, 110, 100]), .lit (.string [98, 97, 116, 99, 104]), .lit (.string [98, 101, 116, 119, 101, 101, 110]), .lit (.string [98, 105, 116, 115]), .lit (.string [98, 121]), .lit (.string [99, 111, 110, 115, 105, 115, 116, 101, 110, 116]), .lit (.string [99, 111, 117, 110, 116]), .lit (.string [101, 108, 115, 101]), .lit (.string [102, 97, 99, 116, 111, 114]), .lit (.string [102, 114, 111, 109]), .lit (.string [104, 105, 115, 116, 111, 103, 114, 97, 109]), .lit (.string [105, 100, 101, 110, 116, 105, 116, 121]), .lit (.string [105, 102]), .lit (.string [106, 111, 105, 110]), .lit (.string [107, 101, 101, 112]), .lit (.string [108, 97, 116, 101]), .lit (.string [108, 105, 109, 105, 116]), .lit (.string [109, 111, 100, 101]), .lit (.string [110, 111, 110, 101]), .lit (.string [110, 111, 116]), .lit (.string [111, 102]), .lit (.string [111, 110]), .lit (.string [111, 114]), .lit (.string [112, 101, 97, 107]), .lit (.string [112, 114, 101, 102, 105, 120]), .lit (.string [113, 117, 97, 110, 116, 105, 108, 101]), .lit (.string [114, 117, 110, 110, 105, 110, 103]), .lit (.string [115, 117, 109]), .lit (.string [116, 104, 101, 110]), .lit (.string [116, 111, 116, 97, 108]), .lit (.string [116, 114, 101, 101]), .lit (.string [117, 115, 105, 110, 103]), .lit (.string [119, 104, 101, 114, 101]), .lit (.string [119, 105, 116, 104])]

/-- 'privhouselaw12.TableRows': WHATEVER THE INPUT: true; the input reads as it did. -/
def tableRowsSpec : ChangeSpec := { name := "tableRows", fn := fun _ => fun
  | [d1, d2] => { results := [.lit (.bool true)], args := [d1, d2] }
  | _ => none }
def tableRowsRow : OpenClaim := { program := "ytlocafmglficnaadoor", sum := "f3032e1e9343e244ef5f396a87cbbf8799bb1b4fc61b99fcf219a051eb951504", func := "privhouse/privhouselaw12.TableRows", spec := "tableRows", unfollowed := true, recurses := true, named := ["privhouse/schema.reserved"], plainKeys := false, apart := false, laid := [("privhouse/schema.reserved", laid_privhouse_schema_reserved)] }
def TableRowsSaid : Prop := tableRowsRow.holds Tryd.pinned (OpenSpec.ofChange tableRowsSpec)

/-- ITS FALSE NEIGHBOUR: 'it returns false'. Refute it at one input. -/
def tableRowsWrong : ChangeSpec := { name := "tableRows", fn := fun _ => fun
  | [d1, d2] => { results := [.lit (.bool false)], args := [d1, d2] }
  | _ => none }
def TableRowsWrongFalsely : Prop := tableRowsRow.holds Tryd.pinned (OpenSpec.ofChange tableRowsWrong)

/-- 'privhouselaw12.TableOwners': WHATEVER THE INPUT: true; the input reads as it did. -/
def tableOwnersSpec : ChangeSpec := { name := "tableOwners", fn := fun _ => fun
  | [d1, d2] => { results := [.lit (.bool true)], args := [d1, d2] }
  | _ => none }
def tableOwnersRow : OpenClaim := { program := "ytlocafmglficnaadoor", sum := "f3032e1e9343e244ef5f396a87cbbf8799bb1b4fc61b99fcf219a051eb951504", func := "privhouse/privhouselaw12.TableOwners", spec := "tableOwners", unfollowed := true, recurses := true, named := ["privhouse/schema.reserved"], plainKeys := false, apart := false, laid := [("privhouse/schema.reserved", laid_privhouse_schema_reserved)] }
def TableOwnersSaid : Prop := tableOwnersRow.holds Tryd.pinned (OpenSpec.ofChange tableOwnersSpec)

/-- ITS FALSE NEIGHBOUR: 'it returns false'. Refute it at one input. -/
def tableOwnersWrong : ChangeSpec := { name := "tableOwners", fn := fun _ => fun
  | [d1, d2] => { results := [.lit (.bool false)], args := [d1, d2] }
  | _ => none }
def TableOwnersWrongFalsely : Prop := tableOwnersRow.holds Tryd.pinned (OpenSpec.ofChange tableOwnersWrong)

/-- 'privhouselaw12.TableKnown': WHATEVER THE INPUT: true; the input reads as it did. -/
def tableKnownSpec : ChangeSpec := { name := "tableKnown", fn := fun _ => fun
  | [] => { results := [.lit (.bool true)], args := [] }
  | _ => none }
def tableKnownRow : OpenClaim := { program := "ytlocafmglficnaadoor", sum := "f3032e1e9343e244ef5f396a87cbbf8799bb1b4fc61b99fcf219a051eb951504", func := "privhouse/privhouselaw12.TableKnown", spec := "tableKnown", unfollowed := true, recurses := true, named := ["privhouse/schema.reserved"], plainKeys := false, apart := false, laid := [("privhouse/schema.reserved", laid_privhouse_schema_reserved)] }
def TableKnownSaid : Prop := tableKnownRow.holds Tryd.pinned (OpenSpec.ofChange tableKnownSpec)

/-- ITS FALSE NEIGHBOUR: 'it returns false'. Refute it at one input. -/
def tableKnownWrong : ChangeSpec := { name := "tableKnown", fn := fun _ => fun
  | [] => { results := [.lit (.bool false)], args := [] }
  | _ => none }
def TableKnownWrongFalsely : Prop := tableKnownRow.holds Tryd.pinned (OpenSpec.ofChange tableKnownWrong)

/-- 'privhouselaw12.TableFinds': WHATEVER THE INPUT: true; the input reads as it did. -/
def tableFindsSpec : ChangeSpec := { name := "tableFinds", fn := fun _ => fun
  | [d1, d2, d3] => { results := [.lit (.bool true)], args := [d1, d2, d3] }
  | _ => none }
def tableFindsRow : OpenClaim := { program := "ytlocafmglficnaadoor", sum := "f3032e1e9343e244ef5f396a87cbbf8799bb1b4fc61b99fcf219a051eb951504", func := "privhouse/privhouselaw12.TableFinds", spec := "tableFinds", unfollowed := true, recurses := true, named := ["privhouse/schema.reserved"], plainKeys := false, apart := false, laid := [("privhouse/schema.reserved", laid_privhouse_schema_reserved)] }
def TableFindsSaid : Prop := tableFindsRow.holds Tryd.pinned (OpenSpec.ofChange tableFindsSpec)

/-- ITS FALSE NEIGHBOUR: 'it returns false'. Refute it at one input. -/
def tableFindsWrong : ChangeSpec := { name := "tableFinds", fn := fun _ => fun
  | [d1, d2, d3] => { results := [.lit (.bool false)], args := [d1, d2, d3] }
  | _ => none }
def TableFindsWrongFalsely : Prop := tableFindsRow.holds Tryd.pinned (OpenSpec.ofChange tableFindsWrong)

/-- 'privhouselaw12.TableCopies': WHATEVER THE INPUT: true; the input reads as it did. -/
def tableCopiesSpec : ChangeSpec := { name := "tableCopies", fn := fun _ => fun
  | [d] => { results := [.lit (.bool true)], args := [d] }
  | _ => none }
def tableCopiesRow : OpenClaim := { program := "ytlocafmglficnaadoor", sum := "f3032e1e9343e244ef5f396a87cbbf8799bb1b4fc61b99fcf219a051eb951504", func := "privhouse/privhouselaw12.TableCopies", spec := "tableCopies", unfollowed := true, recurses := true, named := ["privhouse/schema.reserved"], plainKeys := false, apart := false, laid := [("privhouse/schema.reserved", laid_privhouse_schema_reserved)] }
def TableCopiesSaid : Prop := tableCopiesRow.holds Tryd.pinned (OpenSpec.ofChange tableCopiesSpec)

/-- ITS FALSE NEIGHBOUR: 'it returns false'. Refute it at one input. -/
def tableCopiesWrong : ChangeSpec := { name := "tableCopies", fn := fun _ => fun
  | [d] => { results := [.lit (.bool false)], args := [d] }
  | _ => none }
def TableCopiesWrongFalsely : Prop := tableCopiesRow.holds Tryd.pinned (OpenSpec.ofChange tableCopiesWrong)

/-- 'privhouselaw12.TableTakes': WHATEVER THE INPUT: true; the input reads as it did. -/
def tableTakesSpec : ChangeSpec := { name := "tableTakes", fn := fun _ => fun
  | [d1, d2, d3] => { results := [.lit (.bool true)], args := [d1, d2, d3] }
  | _ => none }
def tableTakesRow : OpenClaim := { program := "ytlocafmglficnaadoor", sum := "f3032e1e9343e244ef5f396a87cbbf8799bb1b4fc61b99fcf219a051eb951504", func := "privhouse/privhouselaw12.TableTakes", spec := "tableTakes", unfollowed := true, recurses := true, named := ["privhouse/schema.reserved"], plainKeys := false, apart := false, laid := [("privhouse/schema.reserved", laid_privhouse_schema_reserved)] }
def TableTakesSaid : Prop := tableTakesRow.holds Tryd.pinned (OpenSpec.ofChange tableTakesSpec)

/-- ITS FALSE NEIGHBOUR: 'it returns false'. Refute it at one input. -/
def tableTakesWrong : ChangeSpec := { name := "tableTakes", fn := fun _ => fun
  | [d1, d2, d3] => { results := [.lit (.bool false)], args := [d1, d2, d3] }
  | _ => none }
def TableTakesWrongFalsely : Prop := tableTakesRow.holds Tryd.pinned (OpenSpec.ofChange tableTakesWrong)

/- THE SECOND FORM. 'bulk': how many values and letters a reading holds, each counted each time it is reached (what is shared counts as often as it is met; a slice's spare places count too). A statement '..UptoSaid' is the law's where the arguments, and the package variables that the reading takes, are together of bulk at most 1048576: NARROWER than '..Said'. Prove '..Said' where nothing that the law and all that it calls make is longer than what came in: it says more and counts as full. Else prove '..UptoSaid'. A law counts once. -/
mutual
def uptoBulk {H : Type} : DataW H → Nat
  | .lit (.string bytes) => bytes.length + 1
  | .lit _ => 1
  | .nil => 1
  | .ptr d => uptoBulk d + 1
  | .slice elems spare => uptoBulkAll elems + uptoBulkAll spare + 1
  | .agg parts => uptoBulkAll parts + 1
  | .iface _ d => uptoBulk d + 1
  | .map entries => uptoBulkEntries entries + 1
  | .held _ => 1
def uptoBulkAll {H : Type} : List (DataW H) → Nat
  | [] => 0
  | d :: r => uptoBulk d + uptoBulkAll r
def uptoBulkEntries {H : Type} : List (Lit × DataW H) → Nat
  | [] => 0
  | x :: r => uptoBulkEntry x + uptoBulkEntries r
def uptoBulkEntry {H : Type} : Lit × DataW H → Nat
  | (.string bytes, d) => bytes.length + uptoBulk d + 1
  | (_, d) => uptoBulk d + 1
 end
def uptoSmall : (H : Type) → List (DataW H) → Bool := fun _ ds => decide (uptoBulkAll ds ≤ 1048576)
def OpenSpec.upto (s : _root_.Go.ChangeSpec) : _root_.Go.OpenSpec := { _root_.Go.OpenSpec.ofChange s with cond := some uptoSmall }

/-- 'privhouselaw12.TableRows', WHERE WHAT IT READS IS OF BULK AT MOST 1048576: true; the input reads as it did. -/
def tableRowsUptoRow : OpenClaim := { program := "ytlocafmglficnaadoor", sum := "f3032e1e9343e244ef5f396a87cbbf8799bb1b4fc61b99fcf219a051eb951504", func := "privhouse/privhouselaw12.TableRows", spec := "tableRows", unfollowed := true, recurses := true, named := ["privhouse/schema.reserved"], plainKeys := false, apart := false, laid := [("privhouse/schema.reserved", laid_privhouse_schema_reserved)], narrowed := true }
def TableRowsUptoSaid : Prop := tableRowsUptoRow.holds Tryd.pinned (OpenSpec.upto tableRowsSpec)

/-- 'privhouselaw12.TableOwners', WHERE WHAT IT READS IS OF BULK AT MOST 1048576: true; the input reads as it did. -/
def tableOwnersUptoRow : OpenClaim := { program := "ytlocafmglficnaadoor", sum := "f3032e1e9343e244ef5f396a87cbbf8799bb1b4fc61b99fcf219a051eb951504", func := "privhouse/privhouselaw12.TableOwners", spec := "tableOwners", unfollowed := true, recurses := true, named := ["privhouse/schema.reserved"], plainKeys := false, apart := false, laid := [("privhouse/schema.reserved", laid_privhouse_schema_reserved)], narrowed := true }
def TableOwnersUptoSaid : Prop := tableOwnersUptoRow.holds Tryd.pinned (OpenSpec.upto tableOwnersSpec)

/-- 'privhouselaw12.TableKnown', WHERE WHAT IT READS IS OF BULK AT MOST 1048576: true; the input reads as it did. -/
def tableKnownUptoRow : OpenClaim := { program := "ytlocafmglficnaadoor", sum := "f3032e1e9343e244ef5f396a87cbbf8799bb1b4fc61b99fcf219a051eb951504", func := "privhouse/privhouselaw12.TableKnown", spec := "tableKnown", unfollowed := true, recurses := true, named := ["privhouse/schema.reserved"], plainKeys := false, apart := false, laid := [("privhouse/schema.reserved", laid_privhouse_schema_reserved)], narrowed := true }
def TableKnownUptoSaid : Prop := tableKnownUptoRow.holds Tryd.pinned (OpenSpec.upto tableKnownSpec)

/-- 'privhouselaw12.TableFinds', WHERE WHAT IT READS IS OF BULK AT MOST 1048576: true; the input reads as it did. -/
def tableFindsUptoRow : OpenClaim := { program := "ytlocafmglficnaadoor", sum := "f3032e1e9343e244ef5f396a87cbbf8799bb1b4fc61b99fcf219a051eb951504", func := "privhouse/privhouselaw12.TableFinds", spec := "tableFinds", unfollowed := true, recurses := true, named := ["privhouse/schema.reserved"], plainKeys := false, apart := false, laid := [("privhouse/schema.reserved", laid_privhouse_schema_reserved)], narrowed := true }
def TableFindsUptoSaid : Prop := tableFindsUptoRow.holds Tryd.pinned (OpenSpec.upto tableFindsSpec)

/-- 'privhouselaw12.TableCopies', WHERE WHAT IT READS IS OF BULK AT MOST 1048576: true; the input reads as it did. -/
def tableCopiesUptoRow : OpenClaim := { program := "ytlocafmglficnaadoor", sum := "f3032e1e9343e244ef5f396a87cbbf8799bb1b4fc61b99fcf219a051eb951504", func := "privhouse/privhouselaw12.TableCopies", spec := "tableCopies", unfollowed := true, recurses := true, named := ["privhouse/schema.reserved"], plainKeys := false, apart := false, laid := [("privhouse/schema.reserved", laid_privhouse_schema_reserved)], narrowed := true }
def TableCopiesUptoSaid : Prop := tableCopiesUptoRow.holds Tryd.pinned (OpenSpec.upto tableCopiesSpec)

/-- 'privhouselaw12.TableTakes', WHERE WHAT IT READS IS OF BULK AT MOST 1048576: true; the input reads as it did. -/
def tableTakesUptoRow : OpenClaim := { program := "ytlocafmglficnaadoor", sum := "f3032e1e9343e244ef5f396a87cbbf8799bb1b4fc61b99fcf219a051eb951504", func := "privhouse/privhouselaw12.TableTakes", spec := "tableTakes", unfollowed := true, recurses := true, named := ["privhouse/schema.reserved"], plainKeys := false, apart := false, laid := [("privhouse/schema.reserved", laid_privhouse_schema_reserved)], narrowed := true }
def TableTakesUptoSaid : Prop := tableTakesUptoRow.holds Tryd.pinned (OpenSpec.upto tableTakesSpec)

end Rows
end Go.Proofs.YtlocafmglficnaaDoor
