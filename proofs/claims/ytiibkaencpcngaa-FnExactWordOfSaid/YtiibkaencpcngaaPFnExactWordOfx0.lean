/- Printed by a program out of the translation, with contracts of my own set in. -/
import Derived.Test.YtiibkaencpcngaaProg
import Derived.Below
import Derived.Deep.Draws
import Derived.Deep.AppendLies
import Derived.Maps.AppendAt
import Derived.OwnWalk
import Derived.Laws.BytesArg
import Derived.Laws.MakeOwn
import Derived.Laws.OwnMore
import Derived.Deep.OwnRows
import Derived.Tactics
import Derived.Lib.ConvBytes
import Derived.Laws.Slices
import Derived.WalkKit
import Derived.KernelRfl
import Derived.RowKit3
import Derived.Deep.LoopGhost
import Derived.Deep.QuietTactic
import Derived.BigQuiet
import Derived.WideLaws
import Derived.Deep.DeepCutAuto
import Derived.Deep.CutBlock
import Derived.Deep.RegionHeld3
import Derived.Laws.Rows
import Derived.Lib.AppendStr
import Derived.ArgAppend
import Derived.Laws.IdiomCopy
import Derived.OrdersHeld
import Derived.Laws.BitsLemmas
import Derived.RowKit
import Derived.Test.YtiibkaencpcngaaWWords
import Derived.Test.YtiibkaencpcngaaWLast
import Derived.Test.YtiibkaencpcngaaWTab
import Derived.Test.YtiibkaencpcngaaWFour
import Derived.Test.YtiibkaencpcngaaWQPut
import Derived.Test.YtiibkaencpcngaaWApart
import Derived.Test.YtiibkaencpcngaaWArr
import Derived.Test.YtiibkaencpcngaaWZeros
import Derived.Test.YtiibkaencpcngaaWFoot
import Derived.Test.YtiibkaencpcngaaWKept
import Derived.Test.YtiibkaencpcngaaWShare
import Derived.Test.YtiibkaencpcngaaWN
import Derived.Test.YtiibkaencpcngaaWFootNe
import Derived.Test.YtiibkaencpcngaaWAt
import Derived.Test.YtiibkaencpcngaaWEqStruct
import Derived.Test.YtiibkaencpcngaaWRepsOne
import Derived.Test.YtiibkaencpcngaaWInv
import Derived.Test.YtiibkaencpcngaaWInvWords
import Derived.Test.YtiibkaencpcngaaWGuard
import Derived.Test.YtiibkaencpcngaaWNEv
import Derived.Test.YtiibkaencpcngaaWMore
namespace Go.Proofs.Ytiibkaencpcngaa.PFnExactWordOf
open Go.RowKit Go.Proofs.YtiibkaencpcngaaW.PrintWords Go.Proofs.YtiibkaencpcngaaW.PrintLast Go.Proofs.YtiibkaencpcngaaW.PrintMore
attribute [local go_sem] max2_int min2_int max_two min_two max_three min_three max_four min_four   -- for this text's walks alone
set_option linter.unusedVariables false
set_option linter.unusedSimpArgs false



def errW : Option Int → Value
  | none => .nilIface
  | some c => .iface 0 (.int .i64 c)
theorem errW_none : errW none = .nilIface := rfl
theorem errW_some (c : Int) : errW (some c) = .iface 0 (.int .i64 c) := rfl

theorem info5 : (Try.prog.info? 5).map (fun i => (i.zero, i.size, i.bytes)) = some (some (.int .u8 0), 1, 1) := by kernel_rfl
-- the values' own types

end Go.Proofs.Ytiibkaencpcngaa.PFnExactWordOf
