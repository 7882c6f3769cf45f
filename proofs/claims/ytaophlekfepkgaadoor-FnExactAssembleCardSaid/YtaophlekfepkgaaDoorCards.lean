/-
  DERIVED. GIVEN WITH THE SEED: THE CARDS: each row of YtaophlekfepkgaaDoorRows.lean that lists a variable, with what it lists TIED to the program's text (the seventh form; the later family's looks); each row that meets fmt, with fmt's text TOLD by the authors' own Lean function (tested against real Go, not proved from fmt's source: count such statements apart). THE CARD IS WHAT COUNTS. Prove the row's statement (the work); the ties are given (YtaophlekfepkgaaDoorTie.lean); close each card by the builder's one call (the guide's Derived/Test/ToyasCard.lean, 'card_holds'). Laid BY PROGRAM, IN A SANDBOX (cutbox-door.mjs). By AI agents, Wed Nov 11 2026. No macro, syntax, notation, axiom, sorry.
-/
import Derived.Test.YtaophlekfepkgaaDoorRows
import GoSem.ClaimSeven
namespace Go.Proofs.YtaophlekfepkgaaDoor
namespace Rows

/-- THE TIED CARD OF 'laws.FnCodec'. -/
def fnCodecCard : Claim7 := { stood := { row := fnCodecRow, standIns := [], harness := (true, "b32fb5343112778e0406f4f87982ca6f8a950e88bb3bc01b524e1fc4c658c6b7"), looks := true }, kinds := [], alts := [], laidByText := true, laidKinds := [.data, .data, .data, .data, .sentinel, .sentinel, .widerDeep, .pinned], laidTests := true, laidLooks := .later }
def FnCodecCardSaid : Prop := Claim7.holds Tryd.pinned (.plain (OpenSpec.ofChange fnCodecSpec)) fnCodecCard

/-- THE TIED CARD OF 'laws.FnExactReadLine'. -/
def fnExactReadLineCard : Claim7 := { stood := { row := fnExactReadLineRow, standIns := [], harness := (true, "b32fb5343112778e0406f4f87982ca6f8a950e88bb3bc01b524e1fc4c658c6b7"), looks := true }, kinds := [], alts := [], laidByText := true, laidKinds := [.data, .data, .data, .data, .sentinel, .sentinel, .widerDeep, .pinned], laidTests := true, laidLooks := .later }
def FnExactReadLineCardSaid : Prop := Claim7.holds Tryd.pinned (.plain (OpenSpec.ofChange fnExactReadLineSpec)) fnExactReadLineCard

/-- THE TIED CARD OF 'laws.FnExactAssemble'. -/
def fnExactAssembleCard : Claim7 := { stood := { row := fnExactAssembleRow, standIns := [], harness := (true, "b32fb5343112778e0406f4f87982ca6f8a950e88bb3bc01b524e1fc4c658c6b7"), looks := true }, kinds := [], alts := [], laidByText := true, laidKinds := [.data, .data, .data, .data, .sentinel, .sentinel, .widerDeep, .pinned], laidTests := true, laidLooks := .later }
def FnExactAssembleCardSaid : Prop := Claim7.holds Tryd.pinned (.plain (OpenSpec.ofChange fnExactAssembleSpec)) fnExactAssembleCard

/-- THE SECOND FORM's CARD OF 'laws.FnCodec'. -/
def fnCodecUptoCard : Claim7 := { stood := { row := fnCodecUptoRow, standIns := [], harness := (true, "b32fb5343112778e0406f4f87982ca6f8a950e88bb3bc01b524e1fc4c658c6b7"), looks := true }, kinds := [], alts := [], laidByText := true, laidKinds := [.data, .data, .data, .data, .sentinel, .sentinel, .widerDeep, .pinned], laidTests := true, laidLooks := .later }
def FnCodecUptoCardSaid : Prop := Claim7.holds Tryd.pinned (.plain (OpenSpec.upto fnCodecSpec)) fnCodecUptoCard

/-- THE SECOND FORM's CARD OF 'laws.FnExactReadLine'. -/
def fnExactReadLineUptoCard : Claim7 := { stood := { row := fnExactReadLineUptoRow, standIns := [], harness := (true, "b32fb5343112778e0406f4f87982ca6f8a950e88bb3bc01b524e1fc4c658c6b7"), looks := true }, kinds := [], alts := [], laidByText := true, laidKinds := [.data, .data, .data, .data, .sentinel, .sentinel, .widerDeep, .pinned], laidTests := true, laidLooks := .later }
def FnExactReadLineUptoCardSaid : Prop := Claim7.holds Tryd.pinned (.plain (OpenSpec.upto fnExactReadLineSpec)) fnExactReadLineUptoCard

/-- THE SECOND FORM's CARD OF 'laws.FnExactAssemble'. -/
def fnExactAssembleUptoCard : Claim7 := { stood := { row := fnExactAssembleUptoRow, standIns := [], harness := (true, "b32fb5343112778e0406f4f87982ca6f8a950e88bb3bc01b524e1fc4c658c6b7"), looks := true }, kinds := [], alts := [], laidByText := true, laidKinds := [.data, .data, .data, .data, .sentinel, .sentinel, .widerDeep, .pinned], laidTests := true, laidLooks := .later }
def FnExactAssembleUptoCardSaid : Prop := Claim7.holds Tryd.pinned (.plain (OpenSpec.upto fnExactAssembleSpec)) fnExactAssembleUptoCard
end Rows
end Go.Proofs.YtaophlekfepkgaaDoor
