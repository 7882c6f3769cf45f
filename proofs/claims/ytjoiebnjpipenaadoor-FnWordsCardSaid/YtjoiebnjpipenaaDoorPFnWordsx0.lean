/- Printed by a program out of the translation, with contracts of my own set in. -/
import Derived.Test.YtjoiebnjpipenaaDoorProg
import Derived.Below
import Derived.Deep.Draws
import Derived.Deep.AppendLies
import Derived.Maps.AppendAt
import Derived.OwnWalk
import Derived.Laws.BytesArg
import Derived.Laws.MakeOwn
import Derived.Laws.OwnMore
import Derived.Deep.OwnRows
import Derived.Tactics
import Derived.Lib.ConvBytes
import Derived.Laws.Slices
import Derived.WalkKit
import Derived.KernelRfl
import Derived.RowKit3
import Derived.Deep.LoopGhost
import Derived.Deep.QuietTactic
import Derived.BigQuiet
import Derived.WideLaws
import Derived.Deep.DeepCutAuto
import Derived.Deep.CutBlock
import Derived.Deep.RegionHeld3
import Derived.Laws.Rows
import Derived.Lib.AppendStr
import Derived.ArgAppend
import Derived.Laws.IdiomCopy
import Derived.OrdersHeld
import Derived.Laws.BitsLemmas
import Derived.RowKit
import Derived.Lib.Hide
import Derived.Shelf.Abstract
import Derived.Test.YtjoiebnjpipenaaDoorTab
import Derived.Test.YtjoiebnjpipenaaDoorShelf
import Derived.Test.YtjoiebnjpipenaaDoorTabE
import Derived.Test.YtjoiebnjpipenaaDoorHex
import Derived.Test.YtjoiebnjpipenaaDoorShelfN
import Derived.Test.YtjoiebnjpipenaaDoorWWords
import Derived.Test.YtjoiebnjpipenaaDoorWLast
import Derived.Test.YtjoiebnjpipenaaDoorWTab
import Derived.Test.YtjoiebnjpipenaaDoorWFour
import Derived.Test.YtjoiebnjpipenaaDoorWQPut
import Derived.Test.YtjoiebnjpipenaaDoorWApart
import Derived.Test.YtjoiebnjpipenaaDoorWArr
import Derived.Test.YtjoiebnjpipenaaDoorWZeros
import Derived.Test.YtjoiebnjpipenaaDoorWFoot
import Derived.Test.YtjoiebnjpipenaaDoorWKept
import Derived.Test.YtjoiebnjpipenaaDoorWShare
import Derived.Test.YtjoiebnjpipenaaDoorWN
import Derived.Test.YtjoiebnjpipenaaDoorWFootNe
import Derived.Test.YtjoiebnjpipenaaDoorWAt
import Derived.Test.YtjoiebnjpipenaaDoorWEqStruct
import Derived.Test.YtjoiebnjpipenaaDoorWRepsOne
import Derived.Test.YtjoiebnjpipenaaDoorWInv
import Derived.Test.YtjoiebnjpipenaaDoorWInvWords
import Derived.Test.YtjoiebnjpipenaaDoorWGuard
import Derived.Test.YtjoiebnjpipenaaDoorWNEv
import Derived.Test.YtjoiebnjpipenaaDoorWMore
namespace Go.Proofs.YtjoiebnjpipenaaDoor.PFnWords
open Go.RowKit Go.Proofs.YtjoiebnjpipenaaDoorW.PrintWords Go.Proofs.YtjoiebnjpipenaaDoorW.PrintLast Go.Proofs.YtjoiebnjpipenaaDoorW.PrintMore
attribute [local go_sem] max2_int min2_int max_two min_two max_three min_three max_four min_four   -- for this text's walks alone
set_option linter.unusedVariables false
set_option linter.unusedSimpArgs false



def errW : Option Int → Value
  | none => .nilIface
  | some c => .iface 0 (.int .i64 c)
theorem errW_none : errW none = .nilIface := rfl
theorem errW_some (c : Int) : errW (some c) = .iface 0 (.int .i64 c) := rfl

theorem info3 : (Tryd.prog.info? 3).map (fun i => (i.zero, i.size, i.bytes)) = some (some (.int .i64 0), 1, 8) := by kernel_rfl
theorem info5 : (Tryd.prog.info? 5).map (fun i => (i.zero, i.size, i.bytes)) = some (some (.int .u8 0), 1, 1) := by kernel_rfl
-- the values' own types

end Go.Proofs.YtjoiebnjpipenaaDoor.PFnWords
