/-
  No cell of these rows narrows 'for every input' (looked for: loops, veiled, ifaces, maps, wideKeys, modest, calm, conditions, laid).
  DERIVED. THE GIVEN ROWS OF THIS SEAT. 12 by the template 'for every input the law returns true; each argument reads behind the call as it read before'; 0 by the template 'total and deterministic' (their statements: YtiibkaencpcngaaTotals.lean).
  GIVEN WITH THE SEED: the statements are not yours to turn. If you find one false, say at which input.
  Laid BY PROGRAM, IN A SANDBOX (cutbox-rows.mjs): the forced cells as the released guide's own fill.sh prints them over the translation 8971fed97376daa5… (all of the seat's roots in one cut). By AI agents, Wed Nov 11 2026. No macro, syntax, notation, axiom, sorry.
-/
import Derived.Test.YtiibkaencpcngaaChecked
import GoSem.Claim
import GoSem.ClaimJoined
import GoSem.ClaimMapViews
import Derived.JoinedTies
import Derived.KernelRfl
namespace Go.Proofs.Ytiibkaencpcngaa
/- THE CELL 'sum', in the pinned program and in every row, IS THE sha256 OF THE DUMP (.gsa) THAT YtiibkaencpcngaaProg.lean LOADS. Nothing in Lean hashes anything: it is a label: what it is worth is what the hold of that sum in a sandbox is worth. -/
noncomputable def Try.pinned : Pinned := { name := "ytiibkaencpcngaa", sum := "8971fed97376daa586ce9533db6548de07fb8401155a5aa1bf7495f20e5734ee", checked := Try.checked }
namespace Rows
def none {H : Type} : Left H := { results := [], args := [] }

/-- 'laws.FnExactConstants': WHATEVER THE INPUT: true; the input reads as it did. -/
def fnExactConstantsSpec : ChangeSpec := { name := "fnExactConstants", fn := fun _ => fun
  | [] => { results := [.lit (.bool true)], args := [] }
  | _ => none }
def fnExactConstantsRow : OpenClaim := { program := "ytiibkaencpcngaa", sum := "8971fed97376daa586ce9533db6548de07fb8401155a5aa1bf7495f20e5734ee", func := "loop.example/g00076/laws.FnExactConstants", spec := "fnExactConstants", apart := false }
def FnExactConstantsSaid : Prop := fnExactConstantsRow.holds Try.pinned (OpenSpec.ofChange fnExactConstantsSpec)

/-- ITS FALSE NEIGHBOUR: 'it returns false'. Refute it at one input. -/
def fnExactConstantsWrong : ChangeSpec := { name := "fnExactConstants", fn := fun _ => fun
  | [] => { results := [.lit (.bool false)], args := [] }
  | _ => none }
def FnExactConstantsWrongFalsely : Prop := fnExactConstantsRow.holds Try.pinned (OpenSpec.ofChange fnExactConstantsWrong)

/-- 'laws.FnExactAddWord': WHATEVER THE INPUT: true; the input reads as it did. -/
def fnExactAddWordSpec : ChangeSpec := { name := "fnExactAddWord", fn := fun _ => fun
  | [d1, d2] => { results := [.lit (.bool true)], args := [d1, d2] }
  | _ => none }
def fnExactAddWordRow : OpenClaim := { program := "ytiibkaencpcngaa", sum := "8971fed97376daa586ce9533db6548de07fb8401155a5aa1bf7495f20e5734ee", func := "loop.example/g00076/laws.FnExactAddWord", spec := "fnExactAddWord", apart := false }
def FnExactAddWordSaid : Prop := fnExactAddWordRow.holds Try.pinned (OpenSpec.ofChange fnExactAddWordSpec)

/-- ITS FALSE NEIGHBOUR: 'it returns false'. Refute it at one input. -/
def fnExactAddWordWrong : ChangeSpec := { name := "fnExactAddWord", fn := fun _ => fun
  | [d1, d2] => { results := [.lit (.bool false)], args := [d1, d2] }
  | _ => none }
def FnExactAddWordWrongFalsely : Prop := fnExactAddWordRow.holds Try.pinned (OpenSpec.ofChange fnExactAddWordWrong)

/-- 'laws.FnExactLessWord': WHATEVER THE INPUT: true; the input reads as it did. -/
def fnExactLessWordSpec : ChangeSpec := { name := "fnExactLessWord", fn := fun _ => fun
  | [d1, d2] => { results := [.lit (.bool true)], args := [d1, d2] }
  | _ => none }
def fnExactLessWordRow : OpenClaim := { program := "ytiibkaencpcngaa", sum := "8971fed97376daa586ce9533db6548de07fb8401155a5aa1bf7495f20e5734ee", func := "loop.example/g00076/laws.FnExactLessWord", spec := "fnExactLessWord", apart := false }
def FnExactLessWordSaid : Prop := fnExactLessWordRow.holds Try.pinned (OpenSpec.ofChange fnExactLessWordSpec)

/-- ITS FALSE NEIGHBOUR: 'it returns false'. Refute it at one input. -/
def fnExactLessWordWrong : ChangeSpec := { name := "fnExactLessWord", fn := fun _ => fun
  | [d1, d2] => { results := [.lit (.bool false)], args := [d1, d2] }
  | _ => none }
def FnExactLessWordWrongFalsely : Prop := fnExactLessWordRow.holds Try.pinned (OpenSpec.ofChange fnExactLessWordWrong)

/-- 'laws.FnExactSarWord': WHATEVER THE INPUT: true; the input reads as it did. -/
def fnExactSarWordSpec : ChangeSpec := { name := "fnExactSarWord", fn := fun _ => fun
  | [d1, d2] => { results := [.lit (.bool true)], args := [d1, d2] }
  | _ => none }
def fnExactSarWordRow : OpenClaim := { program := "ytiibkaencpcngaa", sum := "8971fed97376daa586ce9533db6548de07fb8401155a5aa1bf7495f20e5734ee", func := "loop.example/g00076/laws.FnExactSarWord", spec := "fnExactSarWord", apart := false }
def FnExactSarWordSaid : Prop := fnExactSarWordRow.holds Try.pinned (OpenSpec.ofChange fnExactSarWordSpec)

/-- ITS FALSE NEIGHBOUR: 'it returns false'. Refute it at one input. -/
def fnExactSarWordWrong : ChangeSpec := { name := "fnExactSarWord", fn := fun _ => fun
  | [d1, d2] => { results := [.lit (.bool false)], args := [d1, d2] }
  | _ => none }
def FnExactSarWordWrongFalsely : Prop := fnExactSarWordRow.holds Try.pinned (OpenSpec.ofChange fnExactSarWordWrong)

/-- 'laws.FnExactLabelOk': WHATEVER THE INPUT: true; the input reads as it did. -/
def fnExactLabelOkSpec : ChangeSpec := { name := "fnExactLabelOk", fn := fun _ => fun
  | [d] => { results := [.lit (.bool true)], args := [d] }
  | _ => none }
def fnExactLabelOkRow : OpenClaim := { program := "ytiibkaencpcngaa", sum := "8971fed97376daa586ce9533db6548de07fb8401155a5aa1bf7495f20e5734ee", func := "loop.example/g00076/laws.FnExactLabelOk", spec := "fnExactLabelOk", apart := false }
def FnExactLabelOkSaid : Prop := fnExactLabelOkRow.holds Try.pinned (OpenSpec.ofChange fnExactLabelOkSpec)

/-- ITS FALSE NEIGHBOUR: 'it returns false'. Refute it at one input. -/
def fnExactLabelOkWrong : ChangeSpec := { name := "fnExactLabelOk", fn := fun _ => fun
  | [d] => { results := [.lit (.bool false)], args := [d] }
  | _ => none }
def FnExactLabelOkWrongFalsely : Prop := fnExactLabelOkRow.holds Try.pinned (OpenSpec.ofChange fnExactLabelOkWrong)

/-- 'laws.FnExactShapeOk': WHATEVER THE INPUT: true; the input reads as it did. -/
def fnExactShapeOkSpec : ChangeSpec := { name := "fnExactShapeOk", fn := fun _ => fun
  | [d] => { results := [.lit (.bool true)], args := [d] }
  | _ => none }
def fnExactShapeOkRow : OpenClaim := { program := "ytiibkaencpcngaa", sum := "8971fed97376daa586ce9533db6548de07fb8401155a5aa1bf7495f20e5734ee", func := "loop.example/g00076/laws.FnExactShapeOk", spec := "fnExactShapeOk", apart := false }
def FnExactShapeOkSaid : Prop := fnExactShapeOkRow.holds Try.pinned (OpenSpec.ofChange fnExactShapeOkSpec)

/-- ITS FALSE NEIGHBOUR: 'it returns false'. Refute it at one input. -/
def fnExactShapeOkWrong : ChangeSpec := { name := "fnExactShapeOk", fn := fun _ => fun
  | [d] => { results := [.lit (.bool false)], args := [d] }
  | _ => none }
def FnExactShapeOkWrongFalsely : Prop := fnExactShapeOkRow.holds Try.pinned (OpenSpec.ofChange fnExactShapeOkWrong)

/-- 'laws.FnExactHexWord': WHATEVER THE INPUT: true; the input reads as it did. -/
def fnExactHexWordSpec : ChangeSpec := { name := "fnExactHexWord", fn := fun _ => fun
  | [d] => { results := [.lit (.bool true)], args := [d] }
  | _ => none }
def fnExactHexWordRow : OpenClaim := { program := "ytiibkaencpcngaa", sum := "8971fed97376daa586ce9533db6548de07fb8401155a5aa1bf7495f20e5734ee", func := "loop.example/g00076/laws.FnExactHexWord", spec := "fnExactHexWord", apart := false }
def FnExactHexWordSaid : Prop := fnExactHexWordRow.holds Try.pinned (OpenSpec.ofChange fnExactHexWordSpec)

/-- ITS FALSE NEIGHBOUR: 'it returns false'. Refute it at one input. -/
def fnExactHexWordWrong : ChangeSpec := { name := "fnExactHexWord", fn := fun _ => fun
  | [d] => { results := [.lit (.bool false)], args := [d] }
  | _ => none }
def FnExactHexWordWrongFalsely : Prop := fnExactHexWordRow.holds Try.pinned (OpenSpec.ofChange fnExactHexWordWrong)

/-- 'laws.FnExactSextWord': WHATEVER THE INPUT: true; the input reads as it did. -/
def fnExactSextWordSpec : ChangeSpec := { name := "fnExactSextWord", fn := fun _ => fun
  | [d1, d2] => { results := [.lit (.bool true)], args := [d1, d2] }
  | _ => none }
def fnExactSextWordRow : OpenClaim := { program := "ytiibkaencpcngaa", sum := "8971fed97376daa586ce9533db6548de07fb8401155a5aa1bf7495f20e5734ee", func := "loop.example/g00076/laws.FnExactSextWord", spec := "fnExactSextWord", apart := false }
def FnExactSextWordSaid : Prop := fnExactSextWordRow.holds Try.pinned (OpenSpec.ofChange fnExactSextWordSpec)

/-- ITS FALSE NEIGHBOUR: 'it returns false'. Refute it at one input. -/
def fnExactSextWordWrong : ChangeSpec := { name := "fnExactSextWord", fn := fun _ => fun
  | [d1, d2] => { results := [.lit (.bool false)], args := [d1, d2] }
  | _ => none }
def FnExactSextWordWrongFalsely : Prop := fnExactSextWordRow.holds Try.pinned (OpenSpec.ofChange fnExactSextWordWrong)

/-- 'laws.FnExactRotWord': WHATEVER THE INPUT: true; the input reads as it did. -/
def fnExactRotWordSpec : ChangeSpec := { name := "fnExactRotWord", fn := fun _ => fun
  | [d1, d2] => { results := [.lit (.bool true)], args := [d1, d2] }
  | _ => none }
def fnExactRotWordRow : OpenClaim := { program := "ytiibkaencpcngaa", sum := "8971fed97376daa586ce9533db6548de07fb8401155a5aa1bf7495f20e5734ee", func := "loop.example/g00076/laws.FnExactRotWord", spec := "fnExactRotWord", apart := false }
def FnExactRotWordSaid : Prop := fnExactRotWordRow.holds Try.pinned (OpenSpec.ofChange fnExactRotWordSpec)

/-- ITS FALSE NEIGHBOUR: 'it returns false'. Refute it at one input. -/
def fnExactRotWordWrong : ChangeSpec := { name := "fnExactRotWord", fn := fun _ => fun
  | [d1, d2] => { results := [.lit (.bool false)], args := [d1, d2] }
  | _ => none }
def FnExactRotWordWrongFalsely : Prop := fnExactRotWordRow.holds Try.pinned (OpenSpec.ofChange fnExactRotWordWrong)

/-- 'laws.FnExactCostsOk': WHATEVER THE INPUT: true; the input reads as it did. -/
def fnExactCostsOkSpec : ChangeSpec := { name := "fnExactCostsOk", fn := fun _ => fun
  | [d] => { results := [.lit (.bool true)], args := [d] }
  | _ => none }
def fnExactCostsOkRow : OpenClaim := { program := "ytiibkaencpcngaa", sum := "8971fed97376daa586ce9533db6548de07fb8401155a5aa1bf7495f20e5734ee", func := "loop.example/g00076/laws.FnExactCostsOk", spec := "fnExactCostsOk", apart := false }
def FnExactCostsOkSaid : Prop := fnExactCostsOkRow.holds Try.pinned (OpenSpec.ofChange fnExactCostsOkSpec)

/-- ITS FALSE NEIGHBOUR: 'it returns false'. Refute it at one input. -/
def fnExactCostsOkWrong : ChangeSpec := { name := "fnExactCostsOk", fn := fun _ => fun
  | [d] => { results := [.lit (.bool false)], args := [d] }
  | _ => none }
def FnExactCostsOkWrongFalsely : Prop := fnExactCostsOkRow.holds Try.pinned (OpenSpec.ofChange fnExactCostsOkWrong)

/-- 'laws.FnExactWordOf': WHATEVER THE INPUT: true; the input reads as it did. -/
def fnExactWordOfSpec : ChangeSpec := { name := "fnExactWordOf", fn := fun _ => fun
  | [d] => { results := [.lit (.bool true)], args := [d] }
  | _ => none }
def fnExactWordOfRow : OpenClaim := { program := "ytiibkaencpcngaa", sum := "8971fed97376daa586ce9533db6548de07fb8401155a5aa1bf7495f20e5734ee", func := "loop.example/g00076/laws.FnExactWordOf", spec := "fnExactWordOf", apart := false }
def FnExactWordOfSaid : Prop := fnExactWordOfRow.holds Try.pinned (OpenSpec.ofChange fnExactWordOfSpec)

/-- ITS FALSE NEIGHBOUR: 'it returns false'. Refute it at one input. -/
def fnExactWordOfWrong : ChangeSpec := { name := "fnExactWordOf", fn := fun _ => fun
  | [d] => { results := [.lit (.bool false)], args := [d] }
  | _ => none }
def FnExactWordOfWrongFalsely : Prop := fnExactWordOfRow.holds Try.pinned (OpenSpec.ofChange fnExactWordOfWrong)

/-- 'laws.FnExactWorstDirty': WHATEVER THE INPUT: true; the input reads as it did. -/
def fnExactWorstDirtySpec : ChangeSpec := { name := "fnExactWorstDirty", fn := fun _ => fun
  | [d] => { results := [.lit (.bool true)], args := [d] }
  | _ => none }
def fnExactWorstDirtyRow : OpenClaim := { program := "ytiibkaencpcngaa", sum := "8971fed97376daa586ce9533db6548de07fb8401155a5aa1bf7495f20e5734ee", func := "loop.example/g00076/laws.FnExactWorstDirty", spec := "fnExactWorstDirty", apart := false }
def FnExactWorstDirtySaid : Prop := fnExactWorstDirtyRow.holds Try.pinned (OpenSpec.ofChange fnExactWorstDirtySpec)

/-- ITS FALSE NEIGHBOUR: 'it returns false'. Refute it at one input. -/
def fnExactWorstDirtyWrong : ChangeSpec := { name := "fnExactWorstDirty", fn := fun _ => fun
  | [d] => { results := [.lit (.bool false)], args := [d] }
  | _ => none }
def FnExactWorstDirtyWrongFalsely : Prop := fnExactWorstDirtyRow.holds Try.pinned (OpenSpec.ofChange fnExactWorstDirtyWrong)

/- THE SECOND FORM. 'bulk': how many values and letters a reading holds, each counted each time it is reached (what is shared counts as often as it is met; a slice's spare places count too). A statement '..UptoSaid' is the law's where the arguments, and the package variables that the reading takes, are together of bulk at most 1048576: NARROWER than '..Said'. Prove '..Said' where nothing that the law and all that it calls make is longer than what came in: it says more and counts as full. Else prove '..UptoSaid'. A law counts once. -/
mutual
def uptoBulk {H : Type} : DataW H → Nat
  | .lit (.string bytes) => bytes.length + 1
  | .lit _ => 1
  | .nil => 1
  | .ptr d => uptoBulk d + 1
  | .slice elems spare => uptoBulkAll elems + uptoBulkAll spare + 1
  | .agg parts => uptoBulkAll parts + 1
  | .iface _ d => uptoBulk d + 1
  | .map entries => uptoBulkEntries entries + 1
  | .held _ => 1
def uptoBulkAll {H : Type} : List (DataW H) → Nat
  | [] => 0
  | d :: r => uptoBulk d + uptoBulkAll r
def uptoBulkEntries {H : Type} : List (Lit × DataW H) → Nat
  | [] => 0
  | x :: r => uptoBulkEntry x + uptoBulkEntries r
def uptoBulkEntry {H : Type} : Lit × DataW H → Nat
  | (.string bytes, d) => bytes.length + uptoBulk d + 1
  | (_, d) => uptoBulk d + 1
 end
def uptoSmall : (H : Type) → List (DataW H) → Bool := fun _ ds => decide (uptoBulkAll ds ≤ 1048576)
def OpenSpec.upto (s : _root_.Go.ChangeSpec) : _root_.Go.OpenSpec := { _root_.Go.OpenSpec.ofChange s with cond := some uptoSmall }

/-- 'laws.FnExactConstants', WHERE WHAT IT READS IS OF BULK AT MOST 1048576: true; the input reads as it did. -/
def fnExactConstantsUptoRow : OpenClaim := { program := "ytiibkaencpcngaa", sum := "8971fed97376daa586ce9533db6548de07fb8401155a5aa1bf7495f20e5734ee", func := "loop.example/g00076/laws.FnExactConstants", spec := "fnExactConstants", apart := false, narrowed := true }
def FnExactConstantsUptoSaid : Prop := fnExactConstantsUptoRow.holds Try.pinned (OpenSpec.upto fnExactConstantsSpec)

/-- 'laws.FnExactAddWord', WHERE WHAT IT READS IS OF BULK AT MOST 1048576: true; the input reads as it did. -/
def fnExactAddWordUptoRow : OpenClaim := { program := "ytiibkaencpcngaa", sum := "8971fed97376daa586ce9533db6548de07fb8401155a5aa1bf7495f20e5734ee", func := "loop.example/g00076/laws.FnExactAddWord", spec := "fnExactAddWord", apart := false, narrowed := true }
def FnExactAddWordUptoSaid : Prop := fnExactAddWordUptoRow.holds Try.pinned (OpenSpec.upto fnExactAddWordSpec)

/-- 'laws.FnExactLessWord', WHERE WHAT IT READS IS OF BULK AT MOST 1048576: true; the input reads as it did. -/
def fnExactLessWordUptoRow : OpenClaim := { program := "ytiibkaencpcngaa", sum := "8971fed97376daa586ce9533db6548de07fb8401155a5aa1bf7495f20e5734ee", func := "loop.example/g00076/laws.FnExactLessWord", spec := "fnExactLessWord", apart := false, narrowed := true }
def FnExactLessWordUptoSaid : Prop := fnExactLessWordUptoRow.holds Try.pinned (OpenSpec.upto fnExactLessWordSpec)

/-- 'laws.FnExactSarWord', WHERE WHAT IT READS IS OF BULK AT MOST 1048576: true; the input reads as it did. -/
def fnExactSarWordUptoRow : OpenClaim := { program := "ytiibkaencpcngaa", sum := "8971fed97376daa586ce9533db6548de07fb8401155a5aa1bf7495f20e5734ee", func := "loop.example/g00076/laws.FnExactSarWord", spec := "fnExactSarWord", apart := false, narrowed := true }
def FnExactSarWordUptoSaid : Prop := fnExactSarWordUptoRow.holds Try.pinned (OpenSpec.upto fnExactSarWordSpec)

/-- 'laws.FnExactLabelOk', WHERE WHAT IT READS IS OF BULK AT MOST 1048576: true; the input reads as it did. -/
def fnExactLabelOkUptoRow : OpenClaim := { program := "ytiibkaencpcngaa", sum := "8971fed97376daa586ce9533db6548de07fb8401155a5aa1bf7495f20e5734ee", func := "loop.example/g00076/laws.FnExactLabelOk", spec := "fnExactLabelOk", apart := false, narrowed := true }
def FnExactLabelOkUptoSaid : Prop := fnExactLabelOkUptoRow.holds Try.pinned (OpenSpec.upto fnExactLabelOkSpec)

/-- 'laws.FnExactShapeOk', WHERE WHAT IT READS IS OF BULK AT MOST 1048576: true; the input reads as it did. -/
def fnExactShapeOkUptoRow : OpenClaim := { program := "ytiibkaencpcngaa", sum := "8971fed97376daa586ce9533db6548de07fb8401155a5aa1bf7495f20e5734ee", func := "loop.example/g00076/laws.FnExactShapeOk", spec := "fnExactShapeOk", apart := false, narrowed := true }
def FnExactShapeOkUptoSaid : Prop := fnExactShapeOkUptoRow.holds Try.pinned (OpenSpec.upto fnExactShapeOkSpec)

/-- 'laws.FnExactHexWord', WHERE WHAT IT READS IS OF BULK AT MOST 1048576: true; the input reads as it did. -/
def fnExactHexWordUptoRow : OpenClaim := { program := "ytiibkaencpcngaa", sum := "8971fed97376daa586ce9533db6548de07fb8401155a5aa1bf7495f20e5734ee", func := "loop.example/g00076/laws.FnExactHexWord", spec := "fnExactHexWord", apart := false, narrowed := true }
def FnExactHexWordUptoSaid : Prop := fnExactHexWordUptoRow.holds Try.pinned (OpenSpec.upto fnExactHexWordSpec)

/-- 'laws.FnExactSextWord', WHERE WHAT IT READS IS OF BULK AT MOST 1048576: true; the input reads as it did. -/
def fnExactSextWordUptoRow : OpenClaim := { program := "ytiibkaencpcngaa", sum := "8971fed97376daa586ce9533db6548de07fb8401155a5aa1bf7495f20e5734ee", func := "loop.example/g00076/laws.FnExactSextWord", spec := "fnExactSextWord", apart := false, narrowed := true }
def FnExactSextWordUptoSaid : Prop := fnExactSextWordUptoRow.holds Try.pinned (OpenSpec.upto fnExactSextWordSpec)

/-- 'laws.FnExactRotWord', WHERE WHAT IT READS IS OF BULK AT MOST 1048576: true; the input reads as it did. -/
def fnExactRotWordUptoRow : OpenClaim := { program := "ytiibkaencpcngaa", sum := "8971fed97376daa586ce9533db6548de07fb8401155a5aa1bf7495f20e5734ee", func := "loop.example/g00076/laws.FnExactRotWord", spec := "fnExactRotWord", apart := false, narrowed := true }
def FnExactRotWordUptoSaid : Prop := fnExactRotWordUptoRow.holds Try.pinned (OpenSpec.upto fnExactRotWordSpec)

/-- 'laws.FnExactCostsOk', WHERE WHAT IT READS IS OF BULK AT MOST 1048576: true; the input reads as it did. -/
def fnExactCostsOkUptoRow : OpenClaim := { program := "ytiibkaencpcngaa", sum := "8971fed97376daa586ce9533db6548de07fb8401155a5aa1bf7495f20e5734ee", func := "loop.example/g00076/laws.FnExactCostsOk", spec := "fnExactCostsOk", apart := false, narrowed := true }
def FnExactCostsOkUptoSaid : Prop := fnExactCostsOkUptoRow.holds Try.pinned (OpenSpec.upto fnExactCostsOkSpec)

/-- 'laws.FnExactWordOf', WHERE WHAT IT READS IS OF BULK AT MOST 1048576: true; the input reads as it did. -/
def fnExactWordOfUptoRow : OpenClaim := { program := "ytiibkaencpcngaa", sum := "8971fed97376daa586ce9533db6548de07fb8401155a5aa1bf7495f20e5734ee", func := "loop.example/g00076/laws.FnExactWordOf", spec := "fnExactWordOf", apart := false, narrowed := true }
def FnExactWordOfUptoSaid : Prop := fnExactWordOfUptoRow.holds Try.pinned (OpenSpec.upto fnExactWordOfSpec)

/-- 'laws.FnExactWorstDirty', WHERE WHAT IT READS IS OF BULK AT MOST 1048576: true; the input reads as it did. -/
def fnExactWorstDirtyUptoRow : OpenClaim := { program := "ytiibkaencpcngaa", sum := "8971fed97376daa586ce9533db6548de07fb8401155a5aa1bf7495f20e5734ee", func := "loop.example/g00076/laws.FnExactWorstDirty", spec := "fnExactWorstDirty", apart := false, narrowed := true }
def FnExactWorstDirtyUptoSaid : Prop := fnExactWorstDirtyUptoRow.holds Try.pinned (OpenSpec.upto fnExactWorstDirtySpec)

end Rows
end Go.Proofs.Ytiibkaencpcngaa
