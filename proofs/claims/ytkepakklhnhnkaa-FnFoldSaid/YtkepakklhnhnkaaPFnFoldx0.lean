/- Printed by a program out of the translation, with contracts of my own set in. -/
import Derived.Test.YtkepakklhnhnkaaProg
import Derived.Below
import Derived.Deep.Draws
import Derived.Deep.AppendLies
import Derived.Maps.AppendAt
import Derived.OwnWalk
import Derived.Laws.BytesArg
import Derived.Laws.MakeOwn
import Derived.Laws.OwnMore
import Derived.Deep.OwnRows
import Derived.Tactics
import Derived.Lib.ConvBytes
import Derived.Laws.Slices
import Derived.WalkKit
import Derived.KernelRfl
import Derived.RowKit3
import Derived.Deep.LoopGhost
import Derived.Deep.QuietTactic
import Derived.BigQuiet
import Derived.WideLaws
import Derived.Deep.DeepCutAuto
import Derived.Deep.CutBlock
import Derived.Deep.RegionHeld3
import Derived.Laws.Rows
import Derived.Lib.AppendStr
import Derived.ArgAppend
import Derived.Laws.IdiomCopy
import Derived.OrdersHeld
import Derived.Laws.BitsLemmas
import Derived.RowKit
import Derived.Lib.Hide
import Derived.Test.YtkepakklhnhnkaaWWords
import Derived.Test.YtkepakklhnhnkaaWLast
import Derived.Test.YtkepakklhnhnkaaWTab
import Derived.Test.YtkepakklhnhnkaaWFour
import Derived.Test.YtkepakklhnhnkaaWQPut
import Derived.Test.YtkepakklhnhnkaaWApart
import Derived.Test.YtkepakklhnhnkaaWArr
import Derived.Test.YtkepakklhnhnkaaWZeros
import Derived.Test.YtkepakklhnhnkaaWFoot
import Derived.Test.YtkepakklhnhnkaaWKept
import Derived.Test.YtkepakklhnhnkaaWShare
import Derived.Test.YtkepakklhnhnkaaWN
import Derived.Test.YtkepakklhnhnkaaWFootNe
import Derived.Test.YtkepakklhnhnkaaWAt
import Derived.Test.YtkepakklhnhnkaaWEqStruct
import Derived.Test.YtkepakklhnhnkaaWRepsOne
import Derived.Test.YtkepakklhnhnkaaWInv
import Derived.Test.YtkepakklhnhnkaaWInvWords
import Derived.Test.YtkepakklhnhnkaaWGuard
import Derived.Test.YtkepakklhnhnkaaWNEv
import Derived.Test.YtkepakklhnhnkaaWMore
namespace Go.Proofs.Ytkepakklhnhnkaa.PFnFold
open Go.RowKit Go.Proofs.YtkepakklhnhnkaaW.PrintWords Go.Proofs.YtkepakklhnhnkaaW.PrintLast Go.Proofs.YtkepakklhnhnkaaW.PrintMore
attribute [local go_sem] max2_int min2_int max_two min_two max_three min_three max_four min_four   -- for this text's walks alone
set_option linter.unusedVariables false
set_option linter.unusedSimpArgs false



def errW : Option Int → Value
  | none => .nilIface
  | some c => .iface 0 (.int .i64 c)
theorem errW_none : errW none = .nilIface := rfl
theorem errW_some (c : Int) : errW (some c) = .iface 0 (.int .i64 c) := rfl

theorem info3 : (Try.prog.info? 3).map (fun i => (i.zero, i.size, i.bytes)) = some (some (.int .i64 0), 1, 8) := by kernel_rfl
theorem info22 : (Try.prog.info? 22).map (fun i => (i.zero, i.size, i.bytes)) = some (some (.int .u32 0), 1, 4) := by kernel_rfl
-- the values' own types

end Go.Proofs.Ytkepakklhnhnkaa.PFnFold
