/-
  No cell of these rows narrows 'for every input' (looked for: loops, veiled, ifaces, maps, wideKeys, modest, calm, conditions, laid).
  DERIVED. THE GIVEN ROWS OF THIS SEAT. 4 by the template 'for every input the law returns true; each argument reads behind the call as it read before'; 0 by the template 'total and deterministic' (their statements: YtopllfkhkglogaaTotals.lean).
  GIVEN WITH THE SEED: the statements are not yours to turn. If you find one false, say at which input.
  Laid BY PROGRAM, IN A SANDBOX (cutbox-rows.mjs): the forced cells as the released guide's own fill.sh prints them over the translation 017218b7fd47143e… (all of the seat's roots in one cut). By AI agents, Wed Nov 11 2026. No macro, syntax, notation, axiom, sorry.
-/
import Derived.Test.YtopllfkhkglogaaChecked
import GoSem.Claim
import GoSem.ClaimJoined
import GoSem.ClaimMapViews
import Derived.JoinedTies
import Derived.KernelRfl
namespace Go.Proofs.Ytopllfkhkglogaa
/- THE CELL 'sum', in the pinned program and in every row, IS THE sha256 OF THE DUMP (.gsa) THAT YtopllfkhkglogaaProg.lean LOADS. Nothing in Lean hashes anything: it is a label: what it is worth is what the hold of that sum in a sandbox is worth. -/
noncomputable def Try.pinned : Pinned := { name := "ytopllfkhkglogaa", sum := "017218b7fd47143ec109f1a2cd5eef04410156802784b8f1e40167d545410d88", checked := Try.checked }
namespace Rows
def none {H : Type} : Left H := { results := [], args := [] }

/-- 'privhouselaw23.QuantShape': WHATEVER THE INPUT: true; the input reads as it did. -/
def quantShapeSpec : ChangeSpec := { name := "quantShape", fn := fun _ => fun
  | [d1, d2, d3, d4, d5] => { results := [.lit (.bool true)], args := [d1, d2, d3, d4, d5] }
  | _ => none }
def quantShapeRow : OpenClaim := { program := "ytopllfkhkglogaa", sum := "017218b7fd47143ec109f1a2cd5eef04410156802784b8f1e40167d545410d88", func := "privhouse/privhouselaw23.QuantShape", spec := "quantShape", unfollowed := true, recurses := true, apart := false }
def QuantShapeSaid : Prop := quantShapeRow.holds Try.pinned (OpenSpec.ofChange quantShapeSpec)

/-- ITS FALSE NEIGHBOUR: 'it returns false'. Refute it at one input. -/
def quantShapeWrong : ChangeSpec := { name := "quantShape", fn := fun _ => fun
  | [d1, d2, d3, d4, d5] => { results := [.lit (.bool false)], args := [d1, d2, d3, d4, d5] }
  | _ => none }
def QuantShapeWrongFalsely : Prop := quantShapeRow.holds Try.pinned (OpenSpec.ofChange quantShapeWrong)

/-- 'privhouselaw23.QuantNames': WHATEVER THE INPUT: true; the input reads as it did. -/
def quantNamesSpec : ChangeSpec := { name := "quantNames", fn := fun _ => fun
  | [] => { results := [.lit (.bool true)], args := [] }
  | _ => none }
def quantNamesRow : OpenClaim := { program := "ytopllfkhkglogaa", sum := "017218b7fd47143ec109f1a2cd5eef04410156802784b8f1e40167d545410d88", func := "privhouse/privhouselaw23.QuantNames", spec := "quantNames", unfollowed := true, recurses := true, apart := false }
def QuantNamesSaid : Prop := quantNamesRow.holds Try.pinned (OpenSpec.ofChange quantNamesSpec)

/-- ITS FALSE NEIGHBOUR: 'it returns false'. Refute it at one input. -/
def quantNamesWrong : ChangeSpec := { name := "quantNames", fn := fun _ => fun
  | [] => { results := [.lit (.bool false)], args := [] }
  | _ => none }
def QuantNamesWrongFalsely : Prop := quantNamesRow.holds Try.pinned (OpenSpec.ofChange quantNamesWrong)

/-- 'privhouselaw23.QuantCalls': WHATEVER THE INPUT: true; the input reads as it did. -/
def quantCallsSpec : ChangeSpec := { name := "quantCalls", fn := fun _ => fun
  | [d1, d2, d3, d4, d5] => { results := [.lit (.bool true)], args := [d1, d2, d3, d4, d5] }
  | _ => none }
def quantCallsRow : OpenClaim := { program := "ytopllfkhkglogaa", sum := "017218b7fd47143ec109f1a2cd5eef04410156802784b8f1e40167d545410d88", func := "privhouse/privhouselaw23.QuantCalls", spec := "quantCalls", unfollowed := true, recurses := true, apart := false }
def QuantCallsSaid : Prop := quantCallsRow.holds Try.pinned (OpenSpec.ofChange quantCallsSpec)

/-- ITS FALSE NEIGHBOUR: 'it returns false'. Refute it at one input. -/
def quantCallsWrong : ChangeSpec := { name := "quantCalls", fn := fun _ => fun
  | [d1, d2, d3, d4, d5] => { results := [.lit (.bool false)], args := [d1, d2, d3, d4, d5] }
  | _ => none }
def QuantCallsWrongFalsely : Prop := quantCallsRow.holds Try.pinned (OpenSpec.ofChange quantCallsWrong)

/-- 'privhouselaw23.QuantReach': WHATEVER THE INPUT: true; the input reads as it did. -/
def quantReachSpec : ChangeSpec := { name := "quantReach", fn := fun _ => fun
  | [d1, d2, d3, d4, d5, d6] => { results := [.lit (.bool true)], args := [d1, d2, d3, d4, d5, d6] }
  | _ => none }
def quantReachRow : OpenClaim := { program := "ytopllfkhkglogaa", sum := "017218b7fd47143ec109f1a2cd5eef04410156802784b8f1e40167d545410d88", func := "privhouse/privhouselaw23.QuantReach", spec := "quantReach", unfollowed := true, recurses := true, apart := false }
def QuantReachSaid : Prop := quantReachRow.holds Try.pinned (OpenSpec.ofChange quantReachSpec)

/-- ITS FALSE NEIGHBOUR: 'it returns false'. Refute it at one input. -/
def quantReachWrong : ChangeSpec := { name := "quantReach", fn := fun _ => fun
  | [d1, d2, d3, d4, d5, d6] => { results := [.lit (.bool false)], args := [d1, d2, d3, d4, d5, d6] }
  | _ => none }
def QuantReachWrongFalsely : Prop := quantReachRow.holds Try.pinned (OpenSpec.ofChange quantReachWrong)

/- THE SECOND FORM. 'bulk': how many values and letters a reading holds, each counted each time it is reached (what is shared counts as often as it is met; a slice's spare places count too). A statement '..UptoSaid' is the law's where the arguments, and the package variables that the reading takes, are together of bulk at most 1048576: NARROWER than '..Said'. Prove '..Said' where nothing that the law and all that it calls make is longer than what came in: it says more and counts as full. Else prove '..UptoSaid'. A law counts once. -/
mutual
def uptoBulk {H : Type} : DataW H → Nat
  | .lit (.string bytes) => bytes.length + 1
  | .lit _ => 1
  | .nil => 1
  | .ptr d => uptoBulk d + 1
  | .slice elems spare => uptoBulkAll elems + uptoBulkAll spare + 1
  | .agg parts => uptoBulkAll parts + 1
  | .iface _ d => uptoBulk d + 1
  | .map entries => uptoBulkEntries entries + 1
  | .held _ => 1
def uptoBulkAll {H : Type} : List (DataW H) → Nat
  | [] => 0
  | d :: r => uptoBulk d + uptoBulkAll r
def uptoBulkEntries {H : Type} : List (Lit × DataW H) → Nat
  | [] => 0
  | x :: r => uptoBulkEntry x + uptoBulkEntries r
def uptoBulkEntry {H : Type} : Lit × DataW H → Nat
  | (.string bytes, d) => bytes.length + uptoBulk d + 1
  | (_, d) => uptoBulk d + 1
 end
def uptoSmall : (H : Type) → List (DataW H) → Bool := fun _ ds => decide (uptoBulkAll ds ≤ 1048576)
def OpenSpec.upto (s : _root_.Go.ChangeSpec) : _root_.Go.OpenSpec := { _root_.Go.OpenSpec.ofChange s with cond := some uptoSmall }

/-- 'privhouselaw23.QuantShape', WHERE WHAT IT READS IS OF BULK AT MOST 1048576: true; the input reads as it did. -/
def quantShapeUptoRow : OpenClaim := { program := "ytopllfkhkglogaa", sum := "017218b7fd47143ec109f1a2cd5eef04410156802784b8f1e40167d545410d88", func := "privhouse/privhouselaw23.QuantShape", spec := "quantShape", unfollowed := true, recurses := true, apart := false, narrowed := true }
def QuantShapeUptoSaid : Prop := quantShapeUptoRow.holds Try.pinned (OpenSpec.upto quantShapeSpec)

/-- 'privhouselaw23.QuantNames', WHERE WHAT IT READS IS OF BULK AT MOST 1048576: true; the input reads as it did. -/
def quantNamesUptoRow : OpenClaim := { program := "ytopllfkhkglogaa", sum := "017218b7fd47143ec109f1a2cd5eef04410156802784b8f1e40167d545410d88", func := "privhouse/privhouselaw23.QuantNames", spec := "quantNames", unfollowed := true, recurses := true, apart := false, narrowed := true }
def QuantNamesUptoSaid : Prop := quantNamesUptoRow.holds Try.pinned (OpenSpec.upto quantNamesSpec)

/-- 'privhouselaw23.QuantCalls', WHERE WHAT IT READS IS OF BULK AT MOST 1048576: true; the input reads as it did. -/
def quantCallsUptoRow : OpenClaim := { program := "ytopllfkhkglogaa", sum := "017218b7fd47143ec109f1a2cd5eef04410156802784b8f1e40167d545410d88", func := "privhouse/privhouselaw23.QuantCalls", spec := "quantCalls", unfollowed := true, recurses := true, apart := false, narrowed := true }
def QuantCallsUptoSaid : Prop := quantCallsUptoRow.holds Try.pinned (OpenSpec.upto quantCallsSpec)

/-- 'privhouselaw23.QuantReach', WHERE WHAT IT READS IS OF BULK AT MOST 1048576: true; the input reads as it did. -/
def quantReachUptoRow : OpenClaim := { program := "ytopllfkhkglogaa", sum := "017218b7fd47143ec109f1a2cd5eef04410156802784b8f1e40167d545410d88", func := "privhouse/privhouselaw23.QuantReach", spec := "quantReach", unfollowed := true, recurses := true, apart := false, narrowed := true }
def QuantReachUptoSaid : Prop := quantReachUptoRow.holds Try.pinned (OpenSpec.upto quantReachSpec)

end Rows
end Go.Proofs.Ytopllfkhkglogaa
