/- The reference's Pow of rational numbers (printed by mkrpw.py). Functions of rat on numbers whose result does not fit. The reference's functions of two numbers, on texts of numbers. -/
import Derived.Test.YtigapglmipmbeaaGreatDoorRb15
import Derived.Test.YtigapglmipmbeaaGreatDoorRb14
import Derived.Test.YtigapglmipmbeaaGreatDoorRb10
set_option maxRecDepth 100000
set_option maxHeartbeats 16000000
namespace Go.Proofs.YtigapglmipmbeaaGreatDoor
open Go.RowKit Go.Shelf
open Lim
end Go.Proofs.YtigapglmipmbeaaGreatDoor
namespace Go.Proofs.YtigapglmipmbeaaGreatDoor
open Go.RowKit Go.Shelf
open Lim
section
variable {a b:ByteArray} {p q:Rat} (w:World)
end
end Go.Proofs.YtigapglmipmbeaaGreatDoor
namespace Go.Proofs.YtigapglmipmbeaaGreatDoor
open Go.RowKit Go.Shelf
open Lim
section
variable {a b c:ByteArray} {p q:Rat} (w:World)
theorem rcmpT (ha:IsT a p) (hb:IsT b q) :
  Calls Tryz.prog 119 #[.string a,.string b] w fun e w'=>e = .returned (.tuple #[.int .i64 (cmpQ p q),.int .i64 0])∧Below w.heap.size w w':=by
 refine (refCmp_any a b w ha.size hb.size).mono ?_
 rintro e w' ⟨rfl,h⟩
 rw [two_I ha hb]
 exact ⟨rfl,h⟩
end
end Go.Proofs.YtigapglmipmbeaaGreatDoor
