/- Printed by a program out of the translation, with contracts of my own set in. -/
import Derived.Test.YtboginbepgopeaaProg
import Derived.Below
import Derived.Deep.Draws
import Derived.Deep.AppendLies
import Derived.Maps.AppendAt
import Derived.OwnWalk
import Derived.Laws.BytesArg
import Derived.Laws.MakeOwn
import Derived.Laws.OwnMore
import Derived.Deep.OwnRows
import Derived.Tactics
import Derived.Lib.ConvBytes
import Derived.Laws.Slices
import Derived.WalkKit
import Derived.KernelRfl
import Derived.RowKit3
import Derived.Deep.LoopGhost
import Derived.Deep.QuietTactic
import Derived.BigQuiet
import Derived.WideLaws
import Derived.Deep.DeepCutAuto
import Derived.Deep.CutBlock
import Derived.Deep.RegionHeld3
import Derived.Laws.Rows
import Derived.Lib.AppendStr
import Derived.ArgAppend
import Derived.Laws.IdiomCopy
import Derived.OrdersHeld
import Derived.Laws.BitsLemmas
import Derived.RowKit
import Derived.Lib.Hide
import Derived.Shelf.Abstract
import Derived.StillTailTactics
import Derived.Sort.OwnSortedInts
import Derived.Test.YtboginbepgopeaaShelf
import Derived.Test.YtboginbepgopeaaWWords
import Derived.Test.YtboginbepgopeaaWLast
import Derived.Test.YtboginbepgopeaaWTab
import Derived.Test.YtboginbepgopeaaWFour
import Derived.Test.YtboginbepgopeaaWQPut
import Derived.Test.YtboginbepgopeaaWApart
import Derived.Test.YtboginbepgopeaaWArr
import Derived.Test.YtboginbepgopeaaWZeros
import Derived.Test.YtboginbepgopeaaWFoot
import Derived.Test.YtboginbepgopeaaWKept
import Derived.Test.YtboginbepgopeaaWShare
import Derived.Test.YtboginbepgopeaaWN
import Derived.Test.YtboginbepgopeaaWFootNe
import Derived.Test.YtboginbepgopeaaWAt
import Derived.Test.YtboginbepgopeaaWEqStruct
import Derived.Test.YtboginbepgopeaaWRepsOne
import Derived.Test.YtboginbepgopeaaWInv
import Derived.Test.YtboginbepgopeaaWInvWords
import Derived.Test.YtboginbepgopeaaWGuard
import Derived.Test.YtboginbepgopeaaWNEv
import Derived.Test.YtboginbepgopeaaWMore
namespace Go.Proofs.Ytboginbepgopeaa.PFnExactTlbRun
open Go.RowKit Go.Proofs.YtboginbepgopeaaW.PrintWords Go.Proofs.YtboginbepgopeaaW.PrintLast Go.Proofs.YtboginbepgopeaaW.PrintMore
attribute [local go_sem] max2_int min2_int max_two min_two max_three min_three max_four min_four   -- for this text's walks alone
set_option linter.unusedVariables false
set_option linter.unusedSimpArgs false



def errW : Option Int → Value
  | none => .nilIface
  | some c => .iface 0 (.int .i64 c)
theorem errW_none : errW none = .nilIface := rfl
theorem errW_some (c : Int) : errW (some c) = .iface 0 (.int .i64 c) := rfl

theorem info3 : (Try.prog.info? 3).map (fun i => (i.zero, i.size, i.bytes)) = some (some (.int .i64 0), 1, 8) := by kernel_rfl
theorem info4 : (Try.prog.info? 4).map (fun i => (i.zero, i.size, i.bytes)) = some (some (.bool false), 1, 1) := by kernel_rfl
-- the values' own types

end Go.Proofs.Ytboginbepgopeaa.PFnExactTlbRun
