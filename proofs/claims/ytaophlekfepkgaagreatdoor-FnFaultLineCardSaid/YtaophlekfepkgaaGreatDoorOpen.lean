/- A struct of one-cell fields that comes in by value: its value, and each field's own reading. One lemma a number of fields, printed by opengen.py. -/
import Derived.Lib.SmallJoins
namespace Go.Proofs.YtaophlekfepkgaaGreatDoor.Open
open Go.Joins Go.ChangeShapes Go.WideShapes Go.RowKit Go.Deep
section
variable {H : Type} {enc : TypeId × Value → H} {P : Program} {w : World} {base : Nat} {spare : Nat → Bool} {held : Bool}
end
end Go.Proofs.YtaophlekfepkgaaGreatDoor.Open
