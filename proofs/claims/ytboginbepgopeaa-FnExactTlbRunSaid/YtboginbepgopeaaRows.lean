/-
  No cell of these rows narrows 'for every input' (looked for: loops, veiled, ifaces, maps, wideKeys, modest, calm, conditions, laid).
  DERIVED. THE GIVEN ROWS OF THIS SEAT. 11 by the template 'for every input the law returns true; each argument reads behind the call as it read before'; 0 by the template 'total and deterministic' (their statements: YtboginbepgopeaaTotals.lean).
  GIVEN WITH THE SEED: the statements are not yours to turn. If you find one false, say at which input.
  Laid BY PROGRAM, IN A SANDBOX (cutbox-rows.mjs): the forced cells as the released guide's own fill.sh prints them over the translation 610116d772a6e2f8… (all of the seat's roots in one cut). By AI agents, Wed Nov 11 2026. No macro, syntax, notation, axiom, sorry.
-/
import Derived.Test.YtboginbepgopeaaChecked
import GoSem.Claim
import GoSem.ClaimJoined
import GoSem.ClaimMapViews
import Derived.JoinedTies
import Derived.KernelRfl
namespace Go.Proofs.Ytboginbepgopeaa
/- THE CELL 'sum', in the pinned program and in every row, IS THE sha256 OF THE DUMP (.gsa) THAT YtboginbepgopeaaProg.lean LOADS. Nothing in Lean hashes anything: it is a label: what it is worth is what the hold of that sum in a sandbox is worth. -/
noncomputable def Try.pinned : Pinned := { name := "ytboginbepgopeaa", sum := "610116d772a6e2f868eddbb2728e18682b30a60385b0d108e2c03cfd753352c7", checked := Try.checked }
namespace Rows
def none {H : Type} : Left H := { results := [], args := [] }

/-- 'laws.FnExactTlbHolds': WHATEVER THE INPUT: true; the input reads as it did. -/
def fnExactTlbHoldsSpec : ChangeSpec := { name := "fnExactTlbHolds", fn := fun _ => fun
  | [d1, d2] => { results := [.lit (.bool true)], args := [d1, d2] }
  | _ => none }
def fnExactTlbHoldsRow : OpenClaim := { program := "ytboginbepgopeaa", sum := "610116d772a6e2f868eddbb2728e18682b30a60385b0d108e2c03cfd753352c7", func := "loop.example/g00076/laws.FnExactTlbHolds", spec := "fnExactTlbHolds", apart := false }
def FnExactTlbHoldsSaid : Prop := fnExactTlbHoldsRow.holds Try.pinned (OpenSpec.ofChange fnExactTlbHoldsSpec)

/-- ITS FALSE NEIGHBOUR: 'it returns false'. Refute it at one input. -/
def fnExactTlbHoldsWrong : ChangeSpec := { name := "fnExactTlbHolds", fn := fun _ => fun
  | [d1, d2] => { results := [.lit (.bool false)], args := [d1, d2] }
  | _ => none }
def FnExactTlbHoldsWrongFalsely : Prop := fnExactTlbHoldsRow.holds Try.pinned (OpenSpec.ofChange fnExactTlbHoldsWrong)

/-- 'laws.FnExactWorstStep': WHATEVER THE INPUT: true; the input reads as it did. -/
def fnExactWorstStepSpec : ChangeSpec := { name := "fnExactWorstStep", fn := fun _ => fun
  | [d] => { results := [.lit (.bool true)], args := [d] }
  | _ => none }
def fnExactWorstStepRow : OpenClaim := { program := "ytboginbepgopeaa", sum := "610116d772a6e2f868eddbb2728e18682b30a60385b0d108e2c03cfd753352c7", func := "loop.example/g00076/laws.FnExactWorstStep", spec := "fnExactWorstStep", apart := false }
def FnExactWorstStepSaid : Prop := fnExactWorstStepRow.holds Try.pinned (OpenSpec.ofChange fnExactWorstStepSpec)

/-- ITS FALSE NEIGHBOUR: 'it returns false'. Refute it at one input. -/
def fnExactWorstStepWrong : ChangeSpec := { name := "fnExactWorstStep", fn := fun _ => fun
  | [d] => { results := [.lit (.bool false)], args := [d] }
  | _ => none }
def FnExactWorstStepWrongFalsely : Prop := fnExactWorstStepRow.holds Try.pinned (OpenSpec.ofChange fnExactWorstStepWrong)

/-- 'laws.FnExactCacheEmpty': WHATEVER THE INPUT: true; the input reads as it did. -/
def fnExactCacheEmptySpec : ChangeSpec := { name := "fnExactCacheEmpty", fn := fun _ => fun
  | [d] => { results := [.lit (.bool true)], args := [d] }
  | _ => none }
def fnExactCacheEmptyRow : OpenClaim := { program := "ytboginbepgopeaa", sum := "610116d772a6e2f868eddbb2728e18682b30a60385b0d108e2c03cfd753352c7", func := "loop.example/g00076/laws.FnExactCacheEmpty", spec := "fnExactCacheEmpty", apart := false }
def FnExactCacheEmptySaid : Prop := fnExactCacheEmptyRow.holds Try.pinned (OpenSpec.ofChange fnExactCacheEmptySpec)

/-- ITS FALSE NEIGHBOUR: 'it returns false'. Refute it at one input. -/
def fnExactCacheEmptyWrong : ChangeSpec := { name := "fnExactCacheEmpty", fn := fun _ => fun
  | [d] => { results := [.lit (.bool false)], args := [d] }
  | _ => none }
def FnExactCacheEmptyWrongFalsely : Prop := fnExactCacheEmptyRow.holds Try.pinned (OpenSpec.ofChange fnExactCacheEmptyWrong)

/-- 'laws.FnExactTlbRun': WHATEVER THE INPUT: true; the input reads as it did. -/
def fnExactTlbRunSpec : ChangeSpec := { name := "fnExactTlbRun", fn := fun _ => fun
  | [d1, d2] => { results := [.lit (.bool true)], args := [d1, d2] }
  | _ => none }
def fnExactTlbRunRow : OpenClaim := { program := "ytboginbepgopeaa", sum := "610116d772a6e2f868eddbb2728e18682b30a60385b0d108e2c03cfd753352c7", func := "loop.example/g00076/laws.FnExactTlbRun", spec := "fnExactTlbRun", unfollowed := true, recurses := true, apart := false }
def FnExactTlbRunSaid : Prop := fnExactTlbRunRow.holds Try.pinned (OpenSpec.ofChange fnExactTlbRunSpec)

/-- ITS FALSE NEIGHBOUR: 'it returns false'. Refute it at one input. -/
def fnExactTlbRunWrong : ChangeSpec := { name := "fnExactTlbRun", fn := fun _ => fun
  | [d1, d2] => { results := [.lit (.bool false)], args := [d1, d2] }
  | _ => none }
def FnExactTlbRunWrongFalsely : Prop := fnExactTlbRunRow.holds Try.pinned (OpenSpec.ofChange fnExactTlbRunWrong)

/-- 'laws.FnWorst': WHATEVER THE INPUT: true; the input reads as it did. -/
def fnWorstSpec : ChangeSpec := { name := "fnWorst", fn := fun _ => fun
  | [d] => { results := [.lit (.bool true)], args := [d] }
  | _ => none }
def fnWorstRow : OpenClaim := { program := "ytboginbepgopeaa", sum := "610116d772a6e2f868eddbb2728e18682b30a60385b0d108e2c03cfd753352c7", func := "loop.example/g00076/laws.FnWorst", spec := "fnWorst", apart := false }
def FnWorstSaid : Prop := fnWorstRow.holds Try.pinned (OpenSpec.ofChange fnWorstSpec)

/-- ITS FALSE NEIGHBOUR: 'it returns false'. Refute it at one input. -/
def fnWorstWrong : ChangeSpec := { name := "fnWorst", fn := fun _ => fun
  | [d] => { results := [.lit (.bool false)], args := [d] }
  | _ => none }
def FnWorstWrongFalsely : Prop := fnWorstRow.holds Try.pinned (OpenSpec.ofChange fnWorstWrong)

/-- 'laws.FnExactCacheOk': WHATEVER THE INPUT: true; the input reads as it did. -/
def fnExactCacheOkSpec : ChangeSpec := { name := "fnExactCacheOk", fn := fun _ => fun
  | [d] => { results := [.lit (.bool true)], args := [d] }
  | _ => none }
def fnExactCacheOkRow : OpenClaim := { program := "ytboginbepgopeaa", sum := "610116d772a6e2f868eddbb2728e18682b30a60385b0d108e2c03cfd753352c7", func := "loop.example/g00076/laws.FnExactCacheOk", spec := "fnExactCacheOk", unfollowed := true, recurses := true, apart := false }
def FnExactCacheOkSaid : Prop := fnExactCacheOkRow.holds Try.pinned (OpenSpec.ofChange fnExactCacheOkSpec)

/-- ITS FALSE NEIGHBOUR: 'it returns false'. Refute it at one input. -/
def fnExactCacheOkWrong : ChangeSpec := { name := "fnExactCacheOk", fn := fun _ => fun
  | [d] => { results := [.lit (.bool false)], args := [d] }
  | _ => none }
def FnExactCacheOkWrongFalsely : Prop := fnExactCacheOkRow.holds Try.pinned (OpenSpec.ofChange fnExactCacheOkWrong)

/-- 'laws.FnExactCacheHolds': WHATEVER THE INPUT: true; the input reads as it did. -/
def fnExactCacheHoldsSpec : ChangeSpec := { name := "fnExactCacheHolds", fn := fun _ => fun
  | [d1, d2] => { results := [.lit (.bool true)], args := [d1, d2] }
  | _ => none }
def fnExactCacheHoldsRow : OpenClaim := { program := "ytboginbepgopeaa", sum := "610116d772a6e2f868eddbb2728e18682b30a60385b0d108e2c03cfd753352c7", func := "loop.example/g00076/laws.FnExactCacheHolds", spec := "fnExactCacheHolds", unfollowed := true, recurses := true, apart := false }
def FnExactCacheHoldsSaid : Prop := fnExactCacheHoldsRow.holds Try.pinned (OpenSpec.ofChange fnExactCacheHoldsSpec)

/-- ITS FALSE NEIGHBOUR: 'it returns false'. Refute it at one input. -/
def fnExactCacheHoldsWrong : ChangeSpec := { name := "fnExactCacheHolds", fn := fun _ => fun
  | [d1, d2] => { results := [.lit (.bool false)], args := [d1, d2] }
  | _ => none }
def FnExactCacheHoldsWrongFalsely : Prop := fnExactCacheHoldsRow.holds Try.pinned (OpenSpec.ofChange fnExactCacheHoldsWrong)

/-- 'laws.FnExactCacheFlush': WHATEVER THE INPUT: true; the input reads as it did. -/
def fnExactCacheFlushSpec : ChangeSpec := { name := "fnExactCacheFlush", fn := fun _ => fun
  | [d] => { results := [.lit (.bool true)], args := [d] }
  | _ => none }
def fnExactCacheFlushRow : OpenClaim := { program := "ytboginbepgopeaa", sum := "610116d772a6e2f868eddbb2728e18682b30a60385b0d108e2c03cfd753352c7", func := "loop.example/g00076/laws.FnExactCacheFlush", spec := "fnExactCacheFlush", unfollowed := true, recurses := true, apart := false }
def FnExactCacheFlushSaid : Prop := fnExactCacheFlushRow.holds Try.pinned (OpenSpec.ofChange fnExactCacheFlushSpec)

/-- ITS FALSE NEIGHBOUR: 'it returns false'. Refute it at one input. -/
def fnExactCacheFlushWrong : ChangeSpec := { name := "fnExactCacheFlush", fn := fun _ => fun
  | [d] => { results := [.lit (.bool false)], args := [d] }
  | _ => none }
def FnExactCacheFlushWrongFalsely : Prop := fnExactCacheFlushRow.holds Try.pinned (OpenSpec.ofChange fnExactCacheFlushWrong)

/-- 'laws.FnExactWrites': WHATEVER THE INPUT: true; the input reads as it did. -/
def fnExactWritesSpec : ChangeSpec := { name := "fnExactWrites", fn := fun _ => fun
  | [d] => { results := [.lit (.bool true)], args := [d] }
  | _ => none }
def fnExactWritesRow : OpenClaim := { program := "ytboginbepgopeaa", sum := "610116d772a6e2f868eddbb2728e18682b30a60385b0d108e2c03cfd753352c7", func := "loop.example/g00076/laws.FnExactWrites", spec := "fnExactWrites", unfollowed := true, recurses := true, apart := false }
def FnExactWritesSaid : Prop := fnExactWritesRow.holds Try.pinned (OpenSpec.ofChange fnExactWritesSpec)

/-- ITS FALSE NEIGHBOUR: 'it returns false'. Refute it at one input. -/
def fnExactWritesWrong : ChangeSpec := { name := "fnExactWrites", fn := fun _ => fun
  | [d] => { results := [.lit (.bool false)], args := [d] }
  | _ => none }
def FnExactWritesWrongFalsely : Prop := fnExactWritesRow.holds Try.pinned (OpenSpec.ofChange fnExactWritesWrong)

/-- 'laws.FnExactReads': WHATEVER THE INPUT: true; the input reads as it did. -/
def fnExactReadsSpec : ChangeSpec := { name := "fnExactReads", fn := fun _ => fun
  | [d] => { results := [.lit (.bool true)], args := [d] }
  | _ => none }
def fnExactReadsRow : OpenClaim := { program := "ytboginbepgopeaa", sum := "610116d772a6e2f868eddbb2728e18682b30a60385b0d108e2c03cfd753352c7", func := "loop.example/g00076/laws.FnExactReads", spec := "fnExactReads", unfollowed := true, recurses := true, apart := false }
def FnExactReadsSaid : Prop := fnExactReadsRow.holds Try.pinned (OpenSpec.ofChange fnExactReadsSpec)

/-- ITS FALSE NEIGHBOUR: 'it returns false'. Refute it at one input. -/
def fnExactReadsWrong : ChangeSpec := { name := "fnExactReads", fn := fun _ => fun
  | [d] => { results := [.lit (.bool false)], args := [d] }
  | _ => none }
def FnExactReadsWrongFalsely : Prop := fnExactReadsRow.holds Try.pinned (OpenSpec.ofChange fnExactReadsWrong)

/-- 'laws.FnExactCacheLines': WHATEVER THE INPUT: true; the input reads as it did. -/
def fnExactCacheLinesSpec : ChangeSpec := { name := "fnExactCacheLines", fn := fun _ => fun
  | [d] => { results := [.lit (.bool true)], args := [d] }
  | _ => none }
def fnExactCacheLinesRow : OpenClaim := { program := "ytboginbepgopeaa", sum := "610116d772a6e2f868eddbb2728e18682b30a60385b0d108e2c03cfd753352c7", func := "loop.example/g00076/laws.FnExactCacheLines", spec := "fnExactCacheLines", unfollowed := true, recurses := true, apart := false }
def FnExactCacheLinesSaid : Prop := fnExactCacheLinesRow.holds Try.pinned (OpenSpec.ofChange fnExactCacheLinesSpec)

/-- ITS FALSE NEIGHBOUR: 'it returns false'. Refute it at one input. -/
def fnExactCacheLinesWrong : ChangeSpec := { name := "fnExactCacheLines", fn := fun _ => fun
  | [d] => { results := [.lit (.bool false)], args := [d] }
  | _ => none }
def FnExactCacheLinesWrongFalsely : Prop := fnExactCacheLinesRow.holds Try.pinned (OpenSpec.ofChange fnExactCacheLinesWrong)

/- THE SECOND FORM. 'bulk': how many values and letters a reading holds, each counted each time it is reached (what is shared counts as often as it is met; a slice's spare places count too). A statement '..UptoSaid' is the law's where the arguments, and the package variables that the reading takes, are together of bulk at most 1048576: NARROWER than '..Said'. Prove '..Said' where nothing that the law and all that it calls make is longer than what came in: it says more and counts as full. Else prove '..UptoSaid'. A law counts once. -/
mutual
def uptoBulk {H : Type} : DataW H → Nat
  | .lit (.string bytes) => bytes.length + 1
  | .lit _ => 1
  | .nil => 1
  | .ptr d => uptoBulk d + 1
  | .slice elems spare => uptoBulkAll elems + uptoBulkAll spare + 1
  | .agg parts => uptoBulkAll parts + 1
  | .iface _ d => uptoBulk d + 1
  | .map entries => uptoBulkEntries entries + 1
  | .held _ => 1
def uptoBulkAll {H : Type} : List (DataW H) → Nat
  | [] => 0
  | d :: r => uptoBulk d + uptoBulkAll r
def uptoBulkEntries {H : Type} : List (Lit × DataW H) → Nat
  | [] => 0
  | x :: r => uptoBulkEntry x + uptoBulkEntries r
def uptoBulkEntry {H : Type} : Lit × DataW H → Nat
  | (.string bytes, d) => bytes.length + uptoBulk d + 1
  | (_, d) => uptoBulk d + 1
 end
def uptoSmall : (H : Type) → List (DataW H) → Bool := fun _ ds => decide (uptoBulkAll ds ≤ 1048576)
def OpenSpec.upto (s : _root_.Go.ChangeSpec) : _root_.Go.OpenSpec := { _root_.Go.OpenSpec.ofChange s with cond := some uptoSmall }

/-- 'laws.FnExactTlbHolds', WHERE WHAT IT READS IS OF BULK AT MOST 1048576: true; the input reads as it did. -/
def fnExactTlbHoldsUptoRow : OpenClaim := { program := "ytboginbepgopeaa", sum := "610116d772a6e2f868eddbb2728e18682b30a60385b0d108e2c03cfd753352c7", func := "loop.example/g00076/laws.FnExactTlbHolds", spec := "fnExactTlbHolds", apart := false, narrowed := true }
def FnExactTlbHoldsUptoSaid : Prop := fnExactTlbHoldsUptoRow.holds Try.pinned (OpenSpec.upto fnExactTlbHoldsSpec)

/-- 'laws.FnExactWorstStep', WHERE WHAT IT READS IS OF BULK AT MOST 1048576: true; the input reads as it did. -/
def fnExactWorstStepUptoRow : OpenClaim := { program := "ytboginbepgopeaa", sum := "610116d772a6e2f868eddbb2728e18682b30a60385b0d108e2c03cfd753352c7", func := "loop.example/g00076/laws.FnExactWorstStep", spec := "fnExactWorstStep", apart := false, narrowed := true }
def FnExactWorstStepUptoSaid : Prop := fnExactWorstStepUptoRow.holds Try.pinned (OpenSpec.upto fnExactWorstStepSpec)

/-- 'laws.FnExactCacheEmpty', WHERE WHAT IT READS IS OF BULK AT MOST 1048576: true; the input reads as it did. -/
def fnExactCacheEmptyUptoRow : OpenClaim := { program := "ytboginbepgopeaa", sum := "610116d772a6e2f868eddbb2728e18682b30a60385b0d108e2c03cfd753352c7", func := "loop.example/g00076/laws.FnExactCacheEmpty", spec := "fnExactCacheEmpty", apart := false, narrowed := true }
def FnExactCacheEmptyUptoSaid : Prop := fnExactCacheEmptyUptoRow.holds Try.pinned (OpenSpec.upto fnExactCacheEmptySpec)

/-- 'laws.FnExactTlbRun', WHERE WHAT IT READS IS OF BULK AT MOST 1048576: true; the input reads as it did. -/
def fnExactTlbRunUptoRow : OpenClaim := { program := "ytboginbepgopeaa", sum := "610116d772a6e2f868eddbb2728e18682b30a60385b0d108e2c03cfd753352c7", func := "loop.example/g00076/laws.FnExactTlbRun", spec := "fnExactTlbRun", unfollowed := true, recurses := true, apart := false, narrowed := true }
def FnExactTlbRunUptoSaid : Prop := fnExactTlbRunUptoRow.holds Try.pinned (OpenSpec.upto fnExactTlbRunSpec)

/-- 'laws.FnWorst', WHERE WHAT IT READS IS OF BULK AT MOST 1048576: true; the input reads as it did. -/
def fnWorstUptoRow : OpenClaim := { program := "ytboginbepgopeaa", sum := "610116d772a6e2f868eddbb2728e18682b30a60385b0d108e2c03cfd753352c7", func := "loop.example/g00076/laws.FnWorst", spec := "fnWorst", apart := false, narrowed := true }
def FnWorstUptoSaid : Prop := fnWorstUptoRow.holds Try.pinned (OpenSpec.upto fnWorstSpec)

/-- 'laws.FnExactCacheOk', WHERE WHAT IT READS IS OF BULK AT MOST 1048576: true; the input reads as it did. -/
def fnExactCacheOkUptoRow : OpenClaim := { program := "ytboginbepgopeaa", sum := "610116d772a6e2f868eddbb2728e18682b30a60385b0d108e2c03cfd753352c7", func := "loop.example/g00076/laws.FnExactCacheOk", spec := "fnExactCacheOk", unfollowed := true, recurses := true, apart := false, narrowed := true }
def FnExactCacheOkUptoSaid : Prop := fnExactCacheOkUptoRow.holds Try.pinned (OpenSpec.upto fnExactCacheOkSpec)

/-- 'laws.FnExactCacheHolds', WHERE WHAT IT READS IS OF BULK AT MOST 1048576: true; the input reads as it did. -/
def fnExactCacheHoldsUptoRow : OpenClaim := { program := "ytboginbepgopeaa", sum := "610116d772a6e2f868eddbb2728e18682b30a60385b0d108e2c03cfd753352c7", func := "loop.example/g00076/laws.FnExactCacheHolds", spec := "fnExactCacheHolds", unfollowed := true, recurses := true, apart := false, narrowed := true }
def FnExactCacheHoldsUptoSaid : Prop := fnExactCacheHoldsUptoRow.holds Try.pinned (OpenSpec.upto fnExactCacheHoldsSpec)

/-- 'laws.FnExactCacheFlush', WHERE WHAT IT READS IS OF BULK AT MOST 1048576: true; the input reads as it did. -/
def fnExactCacheFlushUptoRow : OpenClaim := { program := "ytboginbepgopeaa", sum := "610116d772a6e2f868eddbb2728e18682b30a60385b0d108e2c03cfd753352c7", func := "loop.example/g00076/laws.FnExactCacheFlush", spec := "fnExactCacheFlush", unfollowed := true, recurses := true, apart := false, narrowed := true }
def FnExactCacheFlushUptoSaid : Prop := fnExactCacheFlushUptoRow.holds Try.pinned (OpenSpec.upto fnExactCacheFlushSpec)

/-- 'laws.FnExactWrites', WHERE WHAT IT READS IS OF BULK AT MOST 1048576: true; the input reads as it did. -/
def fnExactWritesUptoRow : OpenClaim := { program := "ytboginbepgopeaa", sum := "610116d772a6e2f868eddbb2728e18682b30a60385b0d108e2c03cfd753352c7", func := "loop.example/g00076/laws.FnExactWrites", spec := "fnExactWrites", unfollowed := true, recurses := true, apart := false, narrowed := true }
def FnExactWritesUptoSaid : Prop := fnExactWritesUptoRow.holds Try.pinned (OpenSpec.upto fnExactWritesSpec)

/-- 'laws.FnExactReads', WHERE WHAT IT READS IS OF BULK AT MOST 1048576: true; the input reads as it did. -/
def fnExactReadsUptoRow : OpenClaim := { program := "ytboginbepgopeaa", sum := "610116d772a6e2f868eddbb2728e18682b30a60385b0d108e2c03cfd753352c7", func := "loop.example/g00076/laws.FnExactReads", spec := "fnExactReads", unfollowed := true, recurses := true, apart := false, narrowed := true }
def FnExactReadsUptoSaid : Prop := fnExactReadsUptoRow.holds Try.pinned (OpenSpec.upto fnExactReadsSpec)

/-- 'laws.FnExactCacheLines', WHERE WHAT IT READS IS OF BULK AT MOST 1048576: true; the input reads as it did. -/
def fnExactCacheLinesUptoRow : OpenClaim := { program := "ytboginbepgopeaa", sum := "610116d772a6e2f868eddbb2728e18682b30a60385b0d108e2c03cfd753352c7", func := "loop.example/g00076/laws.FnExactCacheLines", spec := "fnExactCacheLines", unfollowed := true, recurses := true, apart := false, narrowed := true }
def FnExactCacheLinesUptoSaid : Prop := fnExactCacheLinesUptoRow.holds Try.pinned (OpenSpec.upto fnExactCacheLinesSpec)

end Rows
end Go.Proofs.Ytboginbepgopeaa
