/-
  No cell of these rows narrows 'for every input' (looked for: loops, veiled, ifaces, maps, wideKeys, modest, calm, conditions, laid).
  DERIVED. THE GIVEN ROWS OF THIS SEAT. 5 by the template 'for every input the law returns true; each argument reads behind the call as it read before'; 0 by the template 'total and deterministic' (their statements: YtneclonahddipaaTotals.lean).
  GIVEN WITH THE SEED: the statements are not yours to turn. If you find one false, say at which input.
  Laid BY PROGRAM, IN A SANDBOX (cutbox-rows.mjs): the forced cells as the released guide's own fill.sh prints them over the translation ff0ba4b8d5b913de… (all of the seat's roots in one cut). By AI agents, Wed Nov 11 2026. No macro, syntax, notation, axiom, sorry.
-/
import Derived.Test.YtneclonahddipaaChecked
import GoSem.Claim
import GoSem.ClaimJoined
import GoSem.ClaimMapViews
import Derived.JoinedTies
import Derived.KernelRfl
namespace Go.Proofs.Ytneclonahddipaa
/- THE CELL 'sum', in the pinned program and in every row, IS THE sha256 OF THE DUMP (.gsa) THAT YtneclonahddipaaProg.lean LOADS. Nothing in Lean hashes anything: it is a label: what it is worth is what the hold of that sum in a sandbox is worth. -/
noncomputable def Try.pinned : Pinned := { name := "ytneclonahddipaa", sum := "ff0ba4b8d5b913de921706aa5468096e817921e1c7d7663fec770a89c74be9df", checked := Try.checked }
namespace Rows
def none {H : Type} : Left H := { results := [], args := [] }

/-- 'privhouselaw34.CacheKnown': WHATEVER THE INPUT: true; the input reads as it did. -/
def cacheKnownSpec : ChangeSpec := { name := "cacheKnown", fn := fun _ => fun
  | [] => { results := [.lit (.bool true)], args := [] }
  | _ => none }
def cacheKnownRow : OpenClaim := { program := "ytneclonahddipaa", sum := "ff0ba4b8d5b913de921706aa5468096e817921e1c7d7663fec770a89c74be9df", func := "privhouse/privhouselaw34.CacheKnown", spec := "cacheKnown", unfollowed := true, recurses := true, plainKeys := false, apart := false }
def CacheKnownSaid : Prop := cacheKnownRow.holds Try.pinned (OpenSpec.ofChange cacheKnownSpec)

/-- ITS FALSE NEIGHBOUR: 'it returns false'. Refute it at one input. -/
def cacheKnownWrong : ChangeSpec := { name := "cacheKnown", fn := fun _ => fun
  | [] => { results := [.lit (.bool false)], args := [] }
  | _ => none }
def CacheKnownWrongFalsely : Prop := cacheKnownRow.holds Try.pinned (OpenSpec.ofChange cacheKnownWrong)

/-- 'privhouselaw34.CacheStays': WHATEVER THE INPUT: true; the input reads as it did. -/
def cacheStaysSpec : ChangeSpec := { name := "cacheStays", fn := fun _ => fun
  | [d1, d2, d3, d4, d5] => { results := [.lit (.bool true)], args := [d1, d2, d3, d4, d5] }
  | _ => none }
def cacheStaysRow : OpenClaim := { program := "ytneclonahddipaa", sum := "ff0ba4b8d5b913de921706aa5468096e817921e1c7d7663fec770a89c74be9df", func := "privhouse/privhouselaw34.CacheStays", spec := "cacheStays", unfollowed := true, recurses := true, plainKeys := false, apart := false }
def CacheStaysSaid : Prop := cacheStaysRow.holds Try.pinned (OpenSpec.ofChange cacheStaysSpec)

/-- ITS FALSE NEIGHBOUR: 'it returns false'. Refute it at one input. -/
def cacheStaysWrong : ChangeSpec := { name := "cacheStays", fn := fun _ => fun
  | [d1, d2, d3, d4, d5] => { results := [.lit (.bool false)], args := [d1, d2, d3, d4, d5] }
  | _ => none }
def CacheStaysWrongFalsely : Prop := cacheStaysRow.holds Try.pinned (OpenSpec.ofChange cacheStaysWrong)

/-- 'privhouselaw34.CacheFirst': WHATEVER THE INPUT: true; the input reads as it did. -/
def cacheFirstSpec : ChangeSpec := { name := "cacheFirst", fn := fun _ => fun
  | [d1, d2, d3] => { results := [.lit (.bool true)], args := [d1, d2, d3] }
  | _ => none }
def cacheFirstRow : OpenClaim := { program := "ytneclonahddipaa", sum := "ff0ba4b8d5b913de921706aa5468096e817921e1c7d7663fec770a89c74be9df", func := "privhouse/privhouselaw34.CacheFirst", spec := "cacheFirst", unfollowed := true, recurses := true, plainKeys := false, apart := false }
def CacheFirstSaid : Prop := cacheFirstRow.holds Try.pinned (OpenSpec.ofChange cacheFirstSpec)

/-- ITS FALSE NEIGHBOUR: 'it returns false'. Refute it at one input. -/
def cacheFirstWrong : ChangeSpec := { name := "cacheFirst", fn := fun _ => fun
  | [d1, d2, d3] => { results := [.lit (.bool false)], args := [d1, d2, d3] }
  | _ => none }
def CacheFirstWrongFalsely : Prop := cacheFirstRow.holds Try.pinned (OpenSpec.ofChange cacheFirstWrong)

/-- 'privhouselaw34.CacheActs': WHATEVER THE INPUT: true; the input reads as it did. -/
def cacheActsSpec : ChangeSpec := { name := "cacheActs", fn := fun _ => fun
  | [d] => { results := [.lit (.bool true)], args := [d] }
  | _ => none }
def cacheActsRow : OpenClaim := { program := "ytneclonahddipaa", sum := "ff0ba4b8d5b913de921706aa5468096e817921e1c7d7663fec770a89c74be9df", func := "privhouse/privhouselaw34.CacheActs", spec := "cacheActs", inPlace := ["maps.clone"], unfollowed := true, recurses := true, plainKeys := false, apart := false }
def CacheActsSaid : Prop := cacheActsRow.holds Try.pinned (OpenSpec.ofChange cacheActsSpec)

/-- ITS FALSE NEIGHBOUR: 'it returns false'. Refute it at one input. -/
def cacheActsWrong : ChangeSpec := { name := "cacheActs", fn := fun _ => fun
  | [d] => { results := [.lit (.bool false)], args := [d] }
  | _ => none }
def CacheActsWrongFalsely : Prop := cacheActsRow.holds Try.pinned (OpenSpec.ofChange cacheActsWrong)

/-- 'privhouselaw34.CacheNone': WHATEVER THE INPUT: true; the input reads as it did. -/
def cacheNoneSpec : ChangeSpec := { name := "cacheNone", fn := fun _ => fun
  | [d] => { results := [.lit (.bool true)], args := [d] }
  | _ => none }
def cacheNoneRow : OpenClaim := { program := "ytneclonahddipaa", sum := "ff0ba4b8d5b913de921706aa5468096e817921e1c7d7663fec770a89c74be9df", func := "privhouse/privhouselaw34.CacheNone", spec := "cacheNone", inPlace := ["maps.clone"], unfollowed := true, recurses := true, plainKeys := false, apart := false }
def CacheNoneSaid : Prop := cacheNoneRow.holds Try.pinned (OpenSpec.ofChange cacheNoneSpec)

/-- ITS FALSE NEIGHBOUR: 'it returns false'. Refute it at one input. -/
def cacheNoneWrong : ChangeSpec := { name := "cacheNone", fn := fun _ => fun
  | [d] => { results := [.lit (.bool false)], args := [d] }
  | _ => none }
def CacheNoneWrongFalsely : Prop := cacheNoneRow.holds Try.pinned (OpenSpec.ofChange cacheNoneWrong)

/- THE SECOND FORM. 'bulk': how many values and letters a reading holds, each counted each time it is reached (what is shared counts as often as it is met; a slice's spare places count too). A statement '..UptoSaid' is the law's where the arguments, and the package variables that the reading takes, are together of bulk at most 1048576: NARROWER than '..Said'. Prove '..Said' where nothing that the law and all that it calls make is longer than what came in: it says more and counts as full. Else prove '..UptoSaid'. A law counts once. -/
mutual
def uptoBulk {H : Type} : DataW H → Nat
  | .lit (.string bytes) => bytes.length + 1
  | .lit _ => 1
  | .nil => 1
  | .ptr d => uptoBulk d + 1
  | .slice elems spare => uptoBulkAll elems + uptoBulkAll spare + 1
  | .agg parts => uptoBulkAll parts + 1
  | .iface _ d => uptoBulk d + 1
  | .map entries => uptoBulkEntries entries + 1
  | .held _ => 1
def uptoBulkAll {H : Type} : List (DataW H) → Nat
  | [] => 0
  | d :: r => uptoBulk d + uptoBulkAll r
def uptoBulkEntries {H : Type} : List (Lit × DataW H) → Nat
  | [] => 0
  | x :: r => uptoBulkEntry x + uptoBulkEntries r
def uptoBulkEntry {H : Type} : Lit × DataW H → Nat
  | (.string bytes, d) => bytes.length + uptoBulk d + 1
  | (_, d) => uptoBulk d + 1
 end
def uptoSmall : (H : Type) → List (DataW H) → Bool := fun _ ds => decide (uptoBulkAll ds ≤ 1048576)
def OpenSpec.upto (s : _root_.Go.ChangeSpec) : _root_.Go.OpenSpec := { _root_.Go.OpenSpec.ofChange s with cond := some uptoSmall }

/-- 'privhouselaw34.CacheKnown', WHERE WHAT IT READS IS OF BULK AT MOST 1048576: true; the input reads as it did. -/
def cacheKnownUptoRow : OpenClaim := { program := "ytneclonahddipaa", sum := "ff0ba4b8d5b913de921706aa5468096e817921e1c7d7663fec770a89c74be9df", func := "privhouse/privhouselaw34.CacheKnown", spec := "cacheKnown", unfollowed := true, recurses := true, plainKeys := false, apart := false, narrowed := true }
def CacheKnownUptoSaid : Prop := cacheKnownUptoRow.holds Try.pinned (OpenSpec.upto cacheKnownSpec)

/-- 'privhouselaw34.CacheStays', WHERE WHAT IT READS IS OF BULK AT MOST 1048576: true; the input reads as it did. -/
def cacheStaysUptoRow : OpenClaim := { program := "ytneclonahddipaa", sum := "ff0ba4b8d5b913de921706aa5468096e817921e1c7d7663fec770a89c74be9df", func := "privhouse/privhouselaw34.CacheStays", spec := "cacheStays", unfollowed := true, recurses := true, plainKeys := false, apart := false, narrowed := true }
def CacheStaysUptoSaid : Prop := cacheStaysUptoRow.holds Try.pinned (OpenSpec.upto cacheStaysSpec)

/-- 'privhouselaw34.CacheFirst', WHERE WHAT IT READS IS OF BULK AT MOST 1048576: true; the input reads as it did. -/
def cacheFirstUptoRow : OpenClaim := { program := "ytneclonahddipaa", sum := "ff0ba4b8d5b913de921706aa5468096e817921e1c7d7663fec770a89c74be9df", func := "privhouse/privhouselaw34.CacheFirst", spec := "cacheFirst", unfollowed := true, recurses := true, plainKeys := false, apart := false, narrowed := true }
def CacheFirstUptoSaid : Prop := cacheFirstUptoRow.holds Try.pinned (OpenSpec.upto cacheFirstSpec)

/-- 'privhouselaw34.CacheActs', WHERE WHAT IT READS IS OF BULK AT MOST 1048576: true; the input reads as it did. -/
def cacheActsUptoRow : OpenClaim := { program := "ytneclonahddipaa", sum := "ff0ba4b8d5b913de921706aa5468096e817921e1c7d7663fec770a89c74be9df", func := "privhouse/privhouselaw34.CacheActs", spec := "cacheActs", inPlace := ["maps.clone"], unfollowed := true, recurses := true, plainKeys := false, apart := false, narrowed := true }
def CacheActsUptoSaid : Prop := cacheActsUptoRow.holds Try.pinned (OpenSpec.upto cacheActsSpec)

/-- 'privhouselaw34.CacheNone', WHERE WHAT IT READS IS OF BULK AT MOST 1048576: true; the input reads as it did. -/
def cacheNoneUptoRow : OpenClaim := { program := "ytneclonahddipaa", sum := "ff0ba4b8d5b913de921706aa5468096e817921e1c7d7663fec770a89c74be9df", func := "privhouse/privhouselaw34.CacheNone", spec := "cacheNone", inPlace := ["maps.clone"], unfollowed := true, recurses := true, plainKeys := false, apart := false, narrowed := true }
def CacheNoneUptoSaid : Prop := cacheNoneUptoRow.holds Try.pinned (OpenSpec.upto cacheNoneSpec)

end Rows
end Go.Proofs.Ytneclonahddipaa
