/-
  No cell of these rows narrows 'for every input' (looked for: loops, veiled, ifaces, maps, wideKeys, modest, calm, conditions, laid).
  DERIVED. THE GIVEN ROWS OF THIS SEAT. 12 by the template 'for every input the law returns true; each argument reads behind the call as it read before'; 0 by the template 'total and deterministic' (their statements: YtkepakklhnhnkaaTotals.lean).
  GIVEN WITH THE SEED: the statements are not yours to turn. If you find one false, say at which input.
  Laid BY PROGRAM, IN A SANDBOX (cutbox-rows.mjs): the forced cells as the released guide's own fill.sh prints them over the translation 051251a49fbf7fb5… (all of the seat's roots in one cut). By AI agents, Wed Nov 11 2026. No macro, syntax, notation, axiom, sorry.
-/
import Derived.Test.YtkepakklhnhnkaaChecked
import GoSem.Claim
import GoSem.ClaimJoined
import GoSem.ClaimMapViews
import Derived.JoinedTies
import Derived.KernelRfl
namespace Go.Proofs.Ytkepakklhnhnkaa
/- THE CELL 'sum', in the pinned program and in every row, IS THE sha256 OF THE DUMP (.gsa) THAT YtkepakklhnhnkaaProg.lean LOADS. Nothing in Lean hashes anything: it is a label: what it is worth is what the hold of that sum in a sandbox is worth. -/
noncomputable def Try.pinned : Pinned := { name := "ytkepakklhnhnkaa", sum := "051251a49fbf7fb5bb969feacc7959c233038d467d0d0b017c9a4e31adde9438", checked := Try.checked }
namespace Rows
def none {H : Type} : Left H := { results := [], args := [] }

/-- 'laws.FnExactBytesOf': WHATEVER THE INPUT: true; the input reads as it did. -/
def fnExactBytesOfSpec : ChangeSpec := { name := "fnExactBytesOf", fn := fun _ => fun
  | [d] => { results := [.lit (.bool true)], args := [d] }
  | _ => none }
def fnExactBytesOfRow : OpenClaim := { program := "ytkepakklhnhnkaa", sum := "051251a49fbf7fb5bb969feacc7959c233038d467d0d0b017c9a4e31adde9438", func := "loop.example/g00076/laws.FnExactBytesOf", spec := "fnExactBytesOf", apart := false }
def FnExactBytesOfSaid : Prop := fnExactBytesOfRow.holds Try.pinned (OpenSpec.ofChange fnExactBytesOfSpec)

/-- ITS FALSE NEIGHBOUR: 'it returns false'. Refute it at one input. -/
def fnExactBytesOfWrong : ChangeSpec := { name := "fnExactBytesOf", fn := fun _ => fun
  | [d] => { results := [.lit (.bool false)], args := [d] }
  | _ => none }
def FnExactBytesOfWrongFalsely : Prop := fnExactBytesOfRow.holds Try.pinned (OpenSpec.ofChange fnExactBytesOfWrong)

/-- 'laws.FnExactFormOf': WHATEVER THE INPUT: true; the input reads as it did. -/
def fnExactFormOfSpec : ChangeSpec := { name := "fnExactFormOf", fn := fun _ => fun
  | [d] => { results := [.lit (.bool true)], args := [d] }
  | _ => none }
def fnExactFormOfRow : OpenClaim := { program := "ytkepakklhnhnkaa", sum := "051251a49fbf7fb5bb969feacc7959c233038d467d0d0b017c9a4e31adde9438", func := "loop.example/g00076/laws.FnExactFormOf", spec := "fnExactFormOf", apart := false }
def FnExactFormOfSaid : Prop := fnExactFormOfRow.holds Try.pinned (OpenSpec.ofChange fnExactFormOfSpec)

/-- ITS FALSE NEIGHBOUR: 'it returns false'. Refute it at one input. -/
def fnExactFormOfWrong : ChangeSpec := { name := "fnExactFormOf", fn := fun _ => fun
  | [d] => { results := [.lit (.bool false)], args := [d] }
  | _ => none }
def FnExactFormOfWrongFalsely : Prop := fnExactFormOfRow.holds Try.pinned (OpenSpec.ofChange fnExactFormOfWrong)

/-- 'laws.FnExactFoldWords': WHATEVER THE INPUT: true; the input reads as it did. -/
def fnExactFoldWordsSpec : ChangeSpec := { name := "fnExactFoldWords", fn := fun _ => fun
  | [d] => { results := [.lit (.bool true)], args := [d] }
  | _ => none }
def fnExactFoldWordsRow : OpenClaim := { program := "ytkepakklhnhnkaa", sum := "051251a49fbf7fb5bb969feacc7959c233038d467d0d0b017c9a4e31adde9438", func := "loop.example/g00076/laws.FnExactFoldWords", spec := "fnExactFoldWords", apart := false }
def FnExactFoldWordsSaid : Prop := fnExactFoldWordsRow.holds Try.pinned (OpenSpec.ofChange fnExactFoldWordsSpec)

/-- ITS FALSE NEIGHBOUR: 'it returns false'. Refute it at one input. -/
def fnExactFoldWordsWrong : ChangeSpec := { name := "fnExactFoldWords", fn := fun _ => fun
  | [d] => { results := [.lit (.bool false)], args := [d] }
  | _ => none }
def FnExactFoldWordsWrongFalsely : Prop := fnExactFoldWordsRow.holds Try.pinned (OpenSpec.ofChange fnExactFoldWordsWrong)

/-- 'laws.FnExactTlbEmpty': WHATEVER THE INPUT: true; the input reads as it did. -/
def fnExactTlbEmptySpec : ChangeSpec := { name := "fnExactTlbEmpty", fn := fun _ => fun
  | [d] => { results := [.lit (.bool true)], args := [d] }
  | _ => none }
def fnExactTlbEmptyRow : OpenClaim := { program := "ytkepakklhnhnkaa", sum := "051251a49fbf7fb5bb969feacc7959c233038d467d0d0b017c9a4e31adde9438", func := "loop.example/g00076/laws.FnExactTlbEmpty", spec := "fnExactTlbEmpty", apart := false }
def FnExactTlbEmptySaid : Prop := fnExactTlbEmptyRow.holds Try.pinned (OpenSpec.ofChange fnExactTlbEmptySpec)

/-- ITS FALSE NEIGHBOUR: 'it returns false'. Refute it at one input. -/
def fnExactTlbEmptyWrong : ChangeSpec := { name := "fnExactTlbEmpty", fn := fun _ => fun
  | [d] => { results := [.lit (.bool false)], args := [d] }
  | _ => none }
def FnExactTlbEmptyWrongFalsely : Prop := fnExactTlbEmptyRow.holds Try.pinned (OpenSpec.ofChange fnExactTlbEmptyWrong)

/-- 'laws.FnExactAccessCost': WHATEVER THE INPUT: true; the input reads as it did. -/
def fnExactAccessCostSpec : ChangeSpec := { name := "fnExactAccessCost", fn := fun _ => fun
  | [d1, d2] => { results := [.lit (.bool true)], args := [d1, d2] }
  | _ => none }
def fnExactAccessCostRow : OpenClaim := { program := "ytkepakklhnhnkaa", sum := "051251a49fbf7fb5bb969feacc7959c233038d467d0d0b017c9a4e31adde9438", func := "loop.example/g00076/laws.FnExactAccessCost", spec := "fnExactAccessCost", apart := false }
def FnExactAccessCostSaid : Prop := fnExactAccessCostRow.holds Try.pinned (OpenSpec.ofChange fnExactAccessCostSpec)

/-- ITS FALSE NEIGHBOUR: 'it returns false'. Refute it at one input. -/
def fnExactAccessCostWrong : ChangeSpec := { name := "fnExactAccessCost", fn := fun _ => fun
  | [d1, d2] => { results := [.lit (.bool false)], args := [d1, d2] }
  | _ => none }
def FnExactAccessCostWrongFalsely : Prop := fnExactAccessCostRow.holds Try.pinned (OpenSpec.ofChange fnExactAccessCostWrong)

/-- 'laws.FnExactWorstAccess': WHATEVER THE INPUT: true; the input reads as it did. -/
def fnExactWorstAccessSpec : ChangeSpec := { name := "fnExactWorstAccess", fn := fun _ => fun
  | [d] => { results := [.lit (.bool true)], args := [d] }
  | _ => none }
def fnExactWorstAccessRow : OpenClaim := { program := "ytkepakklhnhnkaa", sum := "051251a49fbf7fb5bb969feacc7959c233038d467d0d0b017c9a4e31adde9438", func := "loop.example/g00076/laws.FnExactWorstAccess", spec := "fnExactWorstAccess", apart := false }
def FnExactWorstAccessSaid : Prop := fnExactWorstAccessRow.holds Try.pinned (OpenSpec.ofChange fnExactWorstAccessSpec)

/-- ITS FALSE NEIGHBOUR: 'it returns false'. Refute it at one input. -/
def fnExactWorstAccessWrong : ChangeSpec := { name := "fnExactWorstAccess", fn := fun _ => fun
  | [d] => { results := [.lit (.bool false)], args := [d] }
  | _ => none }
def FnExactWorstAccessWrongFalsely : Prop := fnExactWorstAccessRow.holds Try.pinned (OpenSpec.ofChange fnExactWorstAccessWrong)

/-- 'laws.FnExactInstrOk': WHATEVER THE INPUT: true; the input reads as it did. -/
def fnExactInstrOkSpec : ChangeSpec := { name := "fnExactInstrOk", fn := fun _ => fun
  | [d] => { results := [.lit (.bool true)], args := [d] }
  | _ => none }
def fnExactInstrOkRow : OpenClaim := { program := "ytkepakklhnhnkaa", sum := "051251a49fbf7fb5bb969feacc7959c233038d467d0d0b017c9a4e31adde9438", func := "loop.example/g00076/laws.FnExactInstrOk", spec := "fnExactInstrOk", apart := false }
def FnExactInstrOkSaid : Prop := fnExactInstrOkRow.holds Try.pinned (OpenSpec.ofChange fnExactInstrOkSpec)

/-- ITS FALSE NEIGHBOUR: 'it returns false'. Refute it at one input. -/
def fnExactInstrOkWrong : ChangeSpec := { name := "fnExactInstrOk", fn := fun _ => fun
  | [d] => { results := [.lit (.bool false)], args := [d] }
  | _ => none }
def FnExactInstrOkWrongFalsely : Prop := fnExactInstrOkRow.holds Try.pinned (OpenSpec.ofChange fnExactInstrOkWrong)

/-- 'laws.FnFold': WHATEVER THE INPUT: true; the input reads as it did. -/
def fnFoldSpec : ChangeSpec := { name := "fnFold", fn := fun _ => fun
  | [d] => { results := [.lit (.bool true)], args := [d] }
  | _ => none }
def fnFoldRow : OpenClaim := { program := "ytkepakklhnhnkaa", sum := "051251a49fbf7fb5bb969feacc7959c233038d467d0d0b017c9a4e31adde9438", func := "loop.example/g00076/laws.FnFold", spec := "fnFold", apart := false }
def FnFoldSaid : Prop := fnFoldRow.holds Try.pinned (OpenSpec.ofChange fnFoldSpec)

/-- ITS FALSE NEIGHBOUR: 'it returns false'. Refute it at one input. -/
def fnFoldWrong : ChangeSpec := { name := "fnFold", fn := fun _ => fun
  | [d] => { results := [.lit (.bool false)], args := [d] }
  | _ => none }
def FnFoldWrongFalsely : Prop := fnFoldRow.holds Try.pinned (OpenSpec.ofChange fnFoldWrong)

/-- 'laws.FnExactOpCost': WHATEVER THE INPUT: true; the input reads as it did. -/
def fnExactOpCostSpec : ChangeSpec := { name := "fnExactOpCost", fn := fun _ => fun
  | [d1, d2] => { results := [.lit (.bool true)], args := [d1, d2] }
  | _ => none }
def fnExactOpCostRow : OpenClaim := { program := "ytkepakklhnhnkaa", sum := "051251a49fbf7fb5bb969feacc7959c233038d467d0d0b017c9a4e31adde9438", func := "loop.example/g00076/laws.FnExactOpCost", spec := "fnExactOpCost", apart := false }
def FnExactOpCostSaid : Prop := fnExactOpCostRow.holds Try.pinned (OpenSpec.ofChange fnExactOpCostSpec)

/-- ITS FALSE NEIGHBOUR: 'it returns false'. Refute it at one input. -/
def fnExactOpCostWrong : ChangeSpec := { name := "fnExactOpCost", fn := fun _ => fun
  | [d1, d2] => { results := [.lit (.bool false)], args := [d1, d2] }
  | _ => none }
def FnExactOpCostWrongFalsely : Prop := fnExactOpCostRow.holds Try.pinned (OpenSpec.ofChange fnExactOpCostWrong)

/-- 'laws.FnExactEncode': WHATEVER THE INPUT: true; the input reads as it did. -/
def fnExactEncodeSpec : ChangeSpec := { name := "fnExactEncode", fn := fun _ => fun
  | [d] => { results := [.lit (.bool true)], args := [d] }
  | _ => none }
def fnExactEncodeRow : OpenClaim := { program := "ytkepakklhnhnkaa", sum := "051251a49fbf7fb5bb969feacc7959c233038d467d0d0b017c9a4e31adde9438", func := "loop.example/g00076/laws.FnExactEncode", spec := "fnExactEncode", apart := false }
def FnExactEncodeSaid : Prop := fnExactEncodeRow.holds Try.pinned (OpenSpec.ofChange fnExactEncodeSpec)

/-- ITS FALSE NEIGHBOUR: 'it returns false'. Refute it at one input. -/
def fnExactEncodeWrong : ChangeSpec := { name := "fnExactEncode", fn := fun _ => fun
  | [d] => { results := [.lit (.bool false)], args := [d] }
  | _ => none }
def FnExactEncodeWrongFalsely : Prop := fnExactEncodeRow.holds Try.pinned (OpenSpec.ofChange fnExactEncodeWrong)

/-- 'laws.FnExactTlbOk': WHATEVER THE INPUT: true; the input reads as it did. -/
def fnExactTlbOkSpec : ChangeSpec := { name := "fnExactTlbOk", fn := fun _ => fun
  | [d] => { results := [.lit (.bool true)], args := [d] }
  | _ => none }
def fnExactTlbOkRow : OpenClaim := { program := "ytkepakklhnhnkaa", sum := "051251a49fbf7fb5bb969feacc7959c233038d467d0d0b017c9a4e31adde9438", func := "loop.example/g00076/laws.FnExactTlbOk", spec := "fnExactTlbOk", apart := false }
def FnExactTlbOkSaid : Prop := fnExactTlbOkRow.holds Try.pinned (OpenSpec.ofChange fnExactTlbOkSpec)

/-- ITS FALSE NEIGHBOUR: 'it returns false'. Refute it at one input. -/
def fnExactTlbOkWrong : ChangeSpec := { name := "fnExactTlbOk", fn := fun _ => fun
  | [d] => { results := [.lit (.bool false)], args := [d] }
  | _ => none }
def FnExactTlbOkWrongFalsely : Prop := fnExactTlbOkRow.holds Try.pinned (OpenSpec.ofChange fnExactTlbOkWrong)

/-- 'laws.FnExactDecode': WHATEVER THE INPUT: true; the input reads as it did. -/
def fnExactDecodeSpec : ChangeSpec := { name := "fnExactDecode", fn := fun _ => fun
  | [d] => { results := [.lit (.bool true)], args := [d] }
  | _ => none }
def fnExactDecodeRow : OpenClaim := { program := "ytkepakklhnhnkaa", sum := "051251a49fbf7fb5bb969feacc7959c233038d467d0d0b017c9a4e31adde9438", func := "loop.example/g00076/laws.FnExactDecode", spec := "fnExactDecode", apart := false }
def FnExactDecodeSaid : Prop := fnExactDecodeRow.holds Try.pinned (OpenSpec.ofChange fnExactDecodeSpec)

/-- ITS FALSE NEIGHBOUR: 'it returns false'. Refute it at one input. -/
def fnExactDecodeWrong : ChangeSpec := { name := "fnExactDecode", fn := fun _ => fun
  | [d] => { results := [.lit (.bool false)], args := [d] }
  | _ => none }
def FnExactDecodeWrongFalsely : Prop := fnExactDecodeRow.holds Try.pinned (OpenSpec.ofChange fnExactDecodeWrong)

/- THE SECOND FORM. 'bulk': how many values and letters a reading holds, each counted each time it is reached (what is shared counts as often as it is met; a slice's spare places count too). A statement '..UptoSaid' is the law's where the arguments, and the package variables that the reading takes, are together of bulk at most 1048576: NARROWER than '..Said'. Prove '..Said' where nothing that the law and all that it calls make is longer than what came in: it says more and counts as full. Else prove '..UptoSaid'. A law counts once. -/
mutual
def uptoBulk {H : Type} : DataW H → Nat
  | .lit (.string bytes) => bytes.length + 1
  | .lit _ => 1
  | .nil => 1
  | .ptr d => uptoBulk d + 1
  | .slice elems spare => uptoBulkAll elems + uptoBulkAll spare + 1
  | .agg parts => uptoBulkAll parts + 1
  | .iface _ d => uptoBulk d + 1
  | .map entries => uptoBulkEntries entries + 1
  | .held _ => 1
def uptoBulkAll {H : Type} : List (DataW H) → Nat
  | [] => 0
  | d :: r => uptoBulk d + uptoBulkAll r
def uptoBulkEntries {H : Type} : List (Lit × DataW H) → Nat
  | [] => 0
  | x :: r => uptoBulkEntry x + uptoBulkEntries r
def uptoBulkEntry {H : Type} : Lit × DataW H → Nat
  | (.string bytes, d) => bytes.length + uptoBulk d + 1
  | (_, d) => uptoBulk d + 1
 end
def uptoSmall : (H : Type) → List (DataW H) → Bool := fun _ ds => decide (uptoBulkAll ds ≤ 1048576)
def OpenSpec.upto (s : _root_.Go.ChangeSpec) : _root_.Go.OpenSpec := { _root_.Go.OpenSpec.ofChange s with cond := some uptoSmall }

/-- 'laws.FnExactBytesOf', WHERE WHAT IT READS IS OF BULK AT MOST 1048576: true; the input reads as it did. -/
def fnExactBytesOfUptoRow : OpenClaim := { program := "ytkepakklhnhnkaa", sum := "051251a49fbf7fb5bb969feacc7959c233038d467d0d0b017c9a4e31adde9438", func := "loop.example/g00076/laws.FnExactBytesOf", spec := "fnExactBytesOf", apart := false, narrowed := true }
def FnExactBytesOfUptoSaid : Prop := fnExactBytesOfUptoRow.holds Try.pinned (OpenSpec.upto fnExactBytesOfSpec)

/-- 'laws.FnExactFormOf', WHERE WHAT IT READS IS OF BULK AT MOST 1048576: true; the input reads as it did. -/
def fnExactFormOfUptoRow : OpenClaim := { program := "ytkepakklhnhnkaa", sum := "051251a49fbf7fb5bb969feacc7959c233038d467d0d0b017c9a4e31adde9438", func := "loop.example/g00076/laws.FnExactFormOf", spec := "fnExactFormOf", apart := false, narrowed := true }
def FnExactFormOfUptoSaid : Prop := fnExactFormOfUptoRow.holds Try.pinned (OpenSpec.upto fnExactFormOfSpec)

/-- 'laws.FnExactFoldWords', WHERE WHAT IT READS IS OF BULK AT MOST 1048576: true; the input reads as it did. -/
def fnExactFoldWordsUptoRow : OpenClaim := { program := "ytkepakklhnhnkaa", sum := "051251a49fbf7fb5bb969feacc7959c233038d467d0d0b017c9a4e31adde9438", func := "loop.example/g00076/laws.FnExactFoldWords", spec := "fnExactFoldWords", apart := false, narrowed := true }
def FnExactFoldWordsUptoSaid : Prop := fnExactFoldWordsUptoRow.holds Try.pinned (OpenSpec.upto fnExactFoldWordsSpec)

/-- 'laws.FnExactTlbEmpty', WHERE WHAT IT READS IS OF BULK AT MOST 1048576: true; the input reads as it did. -/
def fnExactTlbEmptyUptoRow : OpenClaim := { program := "ytkepakklhnhnkaa", sum := "051251a49fbf7fb5bb969feacc7959c233038d467d0d0b017c9a4e31adde9438", func := "loop.example/g00076/laws.FnExactTlbEmpty", spec := "fnExactTlbEmpty", apart := false, narrowed := true }
def FnExactTlbEmptyUptoSaid : Prop := fnExactTlbEmptyUptoRow.holds Try.pinned (OpenSpec.upto fnExactTlbEmptySpec)

/-- 'laws.FnExactAccessCost', WHERE WHAT IT READS IS OF BULK AT MOST 1048576: true; the input reads as it did. -/
def fnExactAccessCostUptoRow : OpenClaim := { program := "ytkepakklhnhnkaa", sum := "051251a49fbf7fb5bb969feacc7959c233038d467d0d0b017c9a4e31adde9438", func := "loop.example/g00076/laws.FnExactAccessCost", spec := "fnExactAccessCost", apart := false, narrowed := true }
def FnExactAccessCostUptoSaid : Prop := fnExactAccessCostUptoRow.holds Try.pinned (OpenSpec.upto fnExactAccessCostSpec)

/-- 'laws.FnExactWorstAccess', WHERE WHAT IT READS IS OF BULK AT MOST 1048576: true; the input reads as it did. -/
def fnExactWorstAccessUptoRow : OpenClaim := { program := "ytkepakklhnhnkaa", sum := "051251a49fbf7fb5bb969feacc7959c233038d467d0d0b017c9a4e31adde9438", func := "loop.example/g00076/laws.FnExactWorstAccess", spec := "fnExactWorstAccess", apart := false, narrowed := true }
def FnExactWorstAccessUptoSaid : Prop := fnExactWorstAccessUptoRow.holds Try.pinned (OpenSpec.upto fnExactWorstAccessSpec)

/-- 'laws.FnExactInstrOk', WHERE WHAT IT READS IS OF BULK AT MOST 1048576: true; the input reads as it did. -/
def fnExactInstrOkUptoRow : OpenClaim := { program := "ytkepakklhnhnkaa", sum := "051251a49fbf7fb5bb969feacc7959c233038d467d0d0b017c9a4e31adde9438", func := "loop.example/g00076/laws.FnExactInstrOk", spec := "fnExactInstrOk", apart := false, narrowed := true }
def FnExactInstrOkUptoSaid : Prop := fnExactInstrOkUptoRow.holds Try.pinned (OpenSpec.upto fnExactInstrOkSpec)

/-- 'laws.FnFold', WHERE WHAT IT READS IS OF BULK AT MOST 1048576: true; the input reads as it did. -/
def fnFoldUptoRow : OpenClaim := { program := "ytkepakklhnhnkaa", sum := "051251a49fbf7fb5bb969feacc7959c233038d467d0d0b017c9a4e31adde9438", func := "loop.example/g00076/laws.FnFold", spec := "fnFold", apart := false, narrowed := true }
def FnFoldUptoSaid : Prop := fnFoldUptoRow.holds Try.pinned (OpenSpec.upto fnFoldSpec)

/-- 'laws.FnExactOpCost', WHERE WHAT IT READS IS OF BULK AT MOST 1048576: true; the input reads as it did. -/
def fnExactOpCostUptoRow : OpenClaim := { program := "ytkepakklhnhnkaa", sum := "051251a49fbf7fb5bb969feacc7959c233038d467d0d0b017c9a4e31adde9438", func := "loop.example/g00076/laws.FnExactOpCost", spec := "fnExactOpCost", apart := false, narrowed := true }
def FnExactOpCostUptoSaid : Prop := fnExactOpCostUptoRow.holds Try.pinned (OpenSpec.upto fnExactOpCostSpec)

/-- 'laws.FnExactEncode', WHERE WHAT IT READS IS OF BULK AT MOST 1048576: true; the input reads as it did. -/
def fnExactEncodeUptoRow : OpenClaim := { program := "ytkepakklhnhnkaa", sum := "051251a49fbf7fb5bb969feacc7959c233038d467d0d0b017c9a4e31adde9438", func := "loop.example/g00076/laws.FnExactEncode", spec := "fnExactEncode", apart := false, narrowed := true }
def FnExactEncodeUptoSaid : Prop := fnExactEncodeUptoRow.holds Try.pinned (OpenSpec.upto fnExactEncodeSpec)

/-- 'laws.FnExactTlbOk', WHERE WHAT IT READS IS OF BULK AT MOST 1048576: true; the input reads as it did. -/
def fnExactTlbOkUptoRow : OpenClaim := { program := "ytkepakklhnhnkaa", sum := "051251a49fbf7fb5bb969feacc7959c233038d467d0d0b017c9a4e31adde9438", func := "loop.example/g00076/laws.FnExactTlbOk", spec := "fnExactTlbOk", apart := false, narrowed := true }
def FnExactTlbOkUptoSaid : Prop := fnExactTlbOkUptoRow.holds Try.pinned (OpenSpec.upto fnExactTlbOkSpec)

/-- 'laws.FnExactDecode', WHERE WHAT IT READS IS OF BULK AT MOST 1048576: true; the input reads as it did. -/
def fnExactDecodeUptoRow : OpenClaim := { program := "ytkepakklhnhnkaa", sum := "051251a49fbf7fb5bb969feacc7959c233038d467d0d0b017c9a4e31adde9438", func := "loop.example/g00076/laws.FnExactDecode", spec := "fnExactDecode", apart := false, narrowed := true }
def FnExactDecodeUptoSaid : Prop := fnExactDecodeUptoRow.holds Try.pinned (OpenSpec.upto fnExactDecodeSpec)

end Rows
end Go.Proofs.Ytkepakklhnhnkaa
