/- The reference's Power of natural numbers; odd. The reference's functions of one number: Neg, Abs, Inv, Sign (printed by mkrone.py). Powers that are too great. The reference's Pow of rational numbers (printed by mkrpw.py). -/
import Derived.Test.YtbfhonhjejeaiaaGreatDoorRb13
import Derived.Test.YtbfhonhjejeaiaaGreatDoorRb09
import Derived.Laws.Bits128
import Derived.Test.YtbfhonhjejeaiaaGreatDoorRb12
import Derived.Test.YtbfhonhjejeaiaaGreatDoorRb10
namespace Go.Proofs.YtbfhonhjejeaiaaGreatDoor
open Go.RowKit Go.Shelf
open Lim

end Go.Proofs.YtbfhonhjejeaiaaGreatDoor
namespace Go.Proofs.YtbfhonhjejeaiaaGreatDoor
open Go.RowKit Go.Shelf
open Lim

end Go.Proofs.YtbfhonhjejeaiaaGreatDoor
namespace Go.Proofs.YtbfhonhjejeaiaaGreatDoor
open Go.RowKit Go.Shelf
open Lim

end Go.Proofs.YtbfhonhjejeaiaaGreatDoor
namespace Go.Proofs.YtbfhonhjejeaiaaGreatDoor
open Go.RowKit Go.Shelf
open Lim

/-! ### the plain law of the least exponent -/
end Go.Proofs.YtbfhonhjejeaiaaGreatDoor
