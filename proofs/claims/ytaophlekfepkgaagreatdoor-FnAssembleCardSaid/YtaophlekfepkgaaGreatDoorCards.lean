/-
  DERIVED. GIVEN WITH THE SEED: THE CARDS: each row of YtaophlekfepkgaaGreatDoorRows.lean that lists a variable, with what it lists TIED to the program's text (the seventh form; the later family's looks); each row that meets fmt, with fmt's text TOLD by the authors' own Lean function (tested against real Go, not proved from fmt's source: count such statements apart). THE CARD IS WHAT COUNTS. Prove the row's statement (the work); the ties are given (YtaophlekfepkgaaGreatDoorTie.lean); close each card by the builder's one call (the guide's Derived/Test/ToyasCard.lean, 'card_holds'). Laid BY PROGRAM, IN A SANDBOX (cutbox-door.mjs). By AI agents, Wed Nov 11 2026. No macro, syntax, notation, axiom, sorry.
-/
import Derived.Test.YtaophlekfepkgaaGreatDoorRows
import GoSem.ClaimSeven
namespace Go.Proofs.YtaophlekfepkgaaGreatDoor
namespace Rows

/-- THE TIED CARD OF 'laws.FnFaultLine'. -/
def fnFaultLineCard : Claim7 := { stood := { row := fnFaultLineRow, standIns := [], harness := (true, "ed24f784a0c9682dc75774e6f1117fba2fe4d94be1ae3220a29ce4282f11ba69"), looks := true }, kinds := [], alts := [], laidByText := true, laidKinds := [.data, .data, .data, .data, .sentinel, .sentinel, .widerDeep, .pinned], laidTests := true, laidLooks := .later }
def FnFaultLineCardSaid : Prop := Claim7.holds Tryz.pinned (.plain (OpenSpec.ofChange fnFaultLineSpec)) fnFaultLineCard

/-- THE TIED CARD OF 'laws.FnAssemble'. -/
def fnAssembleCard : Claim7 := { stood := { row := fnAssembleRow, standIns := [], harness := (true, "ed24f784a0c9682dc75774e6f1117fba2fe4d94be1ae3220a29ce4282f11ba69"), looks := true }, kinds := [], alts := [], laidByText := true, laidKinds := [.data, .data, .data, .data, .sentinel, .sentinel, .widerDeep, .pinned], laidTests := true, laidLooks := .later }
def FnAssembleCardSaid : Prop := Claim7.holds Tryz.pinned (.plain (OpenSpec.ofChange fnAssembleSpec)) fnAssembleCard

/-- THE TIED CARD OF 'laws.FnExactLabelsOf'. -/
def fnExactLabelsOfCard : Claim7 := { stood := { row := fnExactLabelsOfRow, standIns := [], harness := (true, "ed24f784a0c9682dc75774e6f1117fba2fe4d94be1ae3220a29ce4282f11ba69"), looks := true }, kinds := [], alts := [], laidByText := true, laidKinds := [.data, .data, .data, .data, .sentinel, .sentinel, .widerDeep, .pinned], laidTests := true, laidLooks := .later }
def FnExactLabelsOfCardSaid : Prop := Claim7.holds Tryz.pinned (.plain (OpenSpec.ofChange fnExactLabelsOfSpec)) fnExactLabelsOfCard

/-- THE SECOND FORM's CARD OF 'laws.FnFaultLine'. -/
def fnFaultLineUptoCard : Claim7 := { stood := { row := fnFaultLineUptoRow, standIns := [], harness := (true, "ed24f784a0c9682dc75774e6f1117fba2fe4d94be1ae3220a29ce4282f11ba69"), looks := true }, kinds := [], alts := [], laidByText := true, laidKinds := [.data, .data, .data, .data, .sentinel, .sentinel, .widerDeep, .pinned], laidTests := true, laidLooks := .later }
def FnFaultLineUptoCardSaid : Prop := Claim7.holds Tryz.pinned (.plain (OpenSpec.upto fnFaultLineSpec)) fnFaultLineUptoCard

/-- THE SECOND FORM's CARD OF 'laws.FnAssemble'. -/
def fnAssembleUptoCard : Claim7 := { stood := { row := fnAssembleUptoRow, standIns := [], harness := (true, "ed24f784a0c9682dc75774e6f1117fba2fe4d94be1ae3220a29ce4282f11ba69"), looks := true }, kinds := [], alts := [], laidByText := true, laidKinds := [.data, .data, .data, .data, .sentinel, .sentinel, .widerDeep, .pinned], laidTests := true, laidLooks := .later }
def FnAssembleUptoCardSaid : Prop := Claim7.holds Tryz.pinned (.plain (OpenSpec.upto fnAssembleSpec)) fnAssembleUptoCard

/-- THE SECOND FORM's CARD OF 'laws.FnExactLabelsOf'. -/
def fnExactLabelsOfUptoCard : Claim7 := { stood := { row := fnExactLabelsOfUptoRow, standIns := [], harness := (true, "ed24f784a0c9682dc75774e6f1117fba2fe4d94be1ae3220a29ce4282f11ba69"), looks := true }, kinds := [], alts := [], laidByText := true, laidKinds := [.data, .data, .data, .data, .sentinel, .sentinel, .widerDeep, .pinned], laidTests := true, laidLooks := .later }
def FnExactLabelsOfUptoCardSaid : Prop := Claim7.holds Tryz.pinned (.plain (OpenSpec.upto fnExactLabelsOfSpec)) fnExactLabelsOfUptoCard
end Rows
end Go.Proofs.YtaophlekfepkgaaGreatDoor
