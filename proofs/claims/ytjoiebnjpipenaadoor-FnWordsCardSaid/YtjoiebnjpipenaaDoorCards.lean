/-
  DERIVED. GIVEN WITH THE SEED: THE CARDS: each row of YtjoiebnjpipenaaDoorRows.lean that lists a variable, with what it lists TIED to the program's text (the seventh form; the later family's looks); each row that meets fmt, with fmt's text TOLD by the authors' own Lean function (tested against real Go, not proved from fmt's source: count such statements apart). THE CARD IS WHAT COUNTS. Prove the row's statement (the work); the ties are given (YtjoiebnjpipenaaDoorTie.lean); close each card by the builder's one call (the guide's Derived/Test/ToyasCard.lean, 'card_holds'). Laid BY PROGRAM, IN A SANDBOX (cutbox-door.mjs). By AI agents, Wed Nov 11 2026. No macro, syntax, notation, axiom, sorry.
-/
import Derived.Test.YtjoiebnjpipenaaDoorRows
import GoSem.ClaimSeven
namespace Go.Proofs.YtjoiebnjpipenaaDoor
namespace Rows

/-- THE TIED CARD OF 'laws.FnExactOpName'. -/
def fnExactOpNameCard : Claim7 := { stood := { row := fnExactOpNameRow, standIns := [], harness := (true, "29a609abd45ee499774fe09d230e9a4e49b9d6ed9129474c72253c4419161553"), looks := true }, kinds := [], alts := [], laidByText := true, laidKinds := [.widerDeep], laidTests := true, laidLooks := .later }
def FnExactOpNameCardSaid : Prop := Claim7.holds Tryd.pinned (.plain (OpenSpec.ofChange fnExactOpNameSpec)) fnExactOpNameCard

/-- THE TIED CARD OF 'laws.FnExactOpOf'. -/
def fnExactOpOfCard : Claim7 := { stood := { row := fnExactOpOfRow, standIns := [], harness := (true, "29a609abd45ee499774fe09d230e9a4e49b9d6ed9129474c72253c4419161553"), looks := true }, kinds := [], alts := [], laidByText := true, laidKinds := [.widerDeep], laidTests := true, laidLooks := .later }
def FnExactOpOfCardSaid : Prop := Claim7.holds Tryd.pinned (.plain (OpenSpec.ofChange fnExactOpOfSpec)) fnExactOpOfCard

/-- THE TIED CARD OF 'laws.FnExactDecText'. -/
def fnExactDecTextCard : Claim7 := { stood := { row := fnExactDecTextRow, standIns := [], harness := (true, "29a609abd45ee499774fe09d230e9a4e49b9d6ed9129474c72253c4419161553"), looks := true }, kinds := [], alts := [], laidByText := true, laidKinds := [.data, .data, .data], laidTests := true, laidLooks := .later }
def FnExactDecTextCardSaid : Prop := Claim7.holds Tryd.pinned (.plain (OpenSpec.ofChange fnExactDecTextSpec)) fnExactDecTextCard

/-- THE TIED CARD OF 'laws.FnExactShowInstr'. -/
def fnExactShowInstrCard : Claim7 := { stood := { row := fnExactShowInstrRow, standIns := [], harness := (true, "29a609abd45ee499774fe09d230e9a4e49b9d6ed9129474c72253c4419161553"), looks := true }, kinds := [], alts := [], laidByText := true, laidKinds := [.data, .data, .data, .widerDeep], laidTests := true, laidLooks := .later }
def FnExactShowInstrCardSaid : Prop := Claim7.holds Tryd.pinned (.plain (OpenSpec.ofChange fnExactShowInstrSpec)) fnExactShowInstrCard

/-- THE TIED CARD OF 'laws.FnExactShowWord'. -/
def fnExactShowWordCard : Claim7 := { stood := { row := fnExactShowWordRow, standIns := [], harness := (true, "29a609abd45ee499774fe09d230e9a4e49b9d6ed9129474c72253c4419161553"), looks := true }, kinds := [], alts := [], laidByText := true, laidKinds := [.data, .data, .data, .widerDeep], laidTests := true, laidLooks := .later }
def FnExactShowWordCardSaid : Prop := Claim7.holds Tryd.pinned (.plain (OpenSpec.ofChange fnExactShowWordSpec)) fnExactShowWordCard

/-- THE TIED CARD OF 'laws.FnExactDisassemble'. -/
def fnExactDisassembleCard : Claim7 := { stood := { row := fnExactDisassembleRow, standIns := [], harness := (true, "29a609abd45ee499774fe09d230e9a4e49b9d6ed9129474c72253c4419161553"), looks := true }, kinds := [], alts := [], laidByText := true, laidKinds := [.data, .data, .data, .widerDeep], laidTests := true, laidLooks := .later }
def FnExactDisassembleCardSaid : Prop := Claim7.holds Tryd.pinned (.plain (OpenSpec.ofChange fnExactDisassembleSpec)) fnExactDisassembleCard

/-- THE TIED CARD OF 'laws.FnExactWordHex'. -/
def fnExactWordHexCard : Claim7 := { stood := { row := fnExactWordHexRow, standIns := [], harness := (true, "29a609abd45ee499774fe09d230e9a4e49b9d6ed9129474c72253c4419161553"), looks := true }, kinds := [], alts := [], laidByText := true, laidKinds := [.data, .data, .data, .sentinel, .sentinel], laidTests := true, laidLooks := .later }
def FnExactWordHexCardSaid : Prop := Claim7.holds Tryd.pinned (.plain (OpenSpec.ofChange fnExactWordHexSpec)) fnExactWordHexCard

/-- THE TIED CARD OF 'laws.FnExactDecNum'. -/
def fnExactDecNumCard : Claim7 := { stood := { row := fnExactDecNumRow, standIns := [], harness := (true, "29a609abd45ee499774fe09d230e9a4e49b9d6ed9129474c72253c4419161553"), looks := true }, kinds := [], alts := [], laidByText := true, laidKinds := [.data, .data, .data, .sentinel, .sentinel], laidTests := true, laidLooks := .later }
def FnExactDecNumCardSaid : Prop := Claim7.holds Tryd.pinned (.plain (OpenSpec.ofChange fnExactDecNumSpec)) fnExactDecNumCard

/-- THE TIED CARD OF 'laws.FnWords'. -/
def fnWordsCard : Claim7 := { stood := { row := fnWordsRow, standIns := [], harness := (true, "29a609abd45ee499774fe09d230e9a4e49b9d6ed9129474c72253c4419161553"), looks := true }, kinds := [], alts := [], laidByText := true, laidKinds := [.data, .data, .data, .sentinel, .sentinel], laidTests := true, laidLooks := .later }
def FnWordsCardSaid : Prop := Claim7.holds Tryd.pinned (.plain (OpenSpec.ofChange fnWordsSpec)) fnWordsCard

/-- THE SECOND FORM's CARD OF 'laws.FnExactOpName'. -/
def fnExactOpNameUptoCard : Claim7 := { stood := { row := fnExactOpNameUptoRow, standIns := [], harness := (true, "29a609abd45ee499774fe09d230e9a4e49b9d6ed9129474c72253c4419161553"), looks := true }, kinds := [], alts := [], laidByText := true, laidKinds := [.widerDeep], laidTests := true, laidLooks := .later }
def FnExactOpNameUptoCardSaid : Prop := Claim7.holds Tryd.pinned (.plain (OpenSpec.upto fnExactOpNameSpec)) fnExactOpNameUptoCard

/-- THE SECOND FORM's CARD OF 'laws.FnExactOpOf'. -/
def fnExactOpOfUptoCard : Claim7 := { stood := { row := fnExactOpOfUptoRow, standIns := [], harness := (true, "29a609abd45ee499774fe09d230e9a4e49b9d6ed9129474c72253c4419161553"), looks := true }, kinds := [], alts := [], laidByText := true, laidKinds := [.widerDeep], laidTests := true, laidLooks := .later }
def FnExactOpOfUptoCardSaid : Prop := Claim7.holds Tryd.pinned (.plain (OpenSpec.upto fnExactOpOfSpec)) fnExactOpOfUptoCard

/-- THE SECOND FORM's CARD OF 'laws.FnExactDecText'. -/
def fnExactDecTextUptoCard : Claim7 := { stood := { row := fnExactDecTextUptoRow, standIns := [], harness := (true, "29a609abd45ee499774fe09d230e9a4e49b9d6ed9129474c72253c4419161553"), looks := true }, kinds := [], alts := [], laidByText := true, laidKinds := [.data, .data, .data], laidTests := true, laidLooks := .later }
def FnExactDecTextUptoCardSaid : Prop := Claim7.holds Tryd.pinned (.plain (OpenSpec.upto fnExactDecTextSpec)) fnExactDecTextUptoCard

/-- THE SECOND FORM's CARD OF 'laws.FnExactShowInstr'. -/
def fnExactShowInstrUptoCard : Claim7 := { stood := { row := fnExactShowInstrUptoRow, standIns := [], harness := (true, "29a609abd45ee499774fe09d230e9a4e49b9d6ed9129474c72253c4419161553"), looks := true }, kinds := [], alts := [], laidByText := true, laidKinds := [.data, .data, .data, .widerDeep], laidTests := true, laidLooks := .later }
def FnExactShowInstrUptoCardSaid : Prop := Claim7.holds Tryd.pinned (.plain (OpenSpec.upto fnExactShowInstrSpec)) fnExactShowInstrUptoCard

/-- THE SECOND FORM's CARD OF 'laws.FnExactShowWord'. -/
def fnExactShowWordUptoCard : Claim7 := { stood := { row := fnExactShowWordUptoRow, standIns := [], harness := (true, "29a609abd45ee499774fe09d230e9a4e49b9d6ed9129474c72253c4419161553"), looks := true }, kinds := [], alts := [], laidByText := true, laidKinds := [.data, .data, .data, .widerDeep], laidTests := true, laidLooks := .later }
def FnExactShowWordUptoCardSaid : Prop := Claim7.holds Tryd.pinned (.plain (OpenSpec.upto fnExactShowWordSpec)) fnExactShowWordUptoCard

/-- THE SECOND FORM's CARD OF 'laws.FnExactDisassemble'. -/
def fnExactDisassembleUptoCard : Claim7 := { stood := { row := fnExactDisassembleUptoRow, standIns := [], harness := (true, "29a609abd45ee499774fe09d230e9a4e49b9d6ed9129474c72253c4419161553"), looks := true }, kinds := [], alts := [], laidByText := true, laidKinds := [.data, .data, .data, .widerDeep], laidTests := true, laidLooks := .later }
def FnExactDisassembleUptoCardSaid : Prop := Claim7.holds Tryd.pinned (.plain (OpenSpec.upto fnExactDisassembleSpec)) fnExactDisassembleUptoCard

/-- THE SECOND FORM's CARD OF 'laws.FnExactWordHex'. -/
def fnExactWordHexUptoCard : Claim7 := { stood := { row := fnExactWordHexUptoRow, standIns := [], harness := (true, "29a609abd45ee499774fe09d230e9a4e49b9d6ed9129474c72253c4419161553"), looks := true }, kinds := [], alts := [], laidByText := true, laidKinds := [.data, .data, .data, .sentinel, .sentinel], laidTests := true, laidLooks := .later }
def FnExactWordHexUptoCardSaid : Prop := Claim7.holds Tryd.pinned (.plain (OpenSpec.upto fnExactWordHexSpec)) fnExactWordHexUptoCard

/-- THE SECOND FORM's CARD OF 'laws.FnExactDecNum'. -/
def fnExactDecNumUptoCard : Claim7 := { stood := { row := fnExactDecNumUptoRow, standIns := [], harness := (true, "29a609abd45ee499774fe09d230e9a4e49b9d6ed9129474c72253c4419161553"), looks := true }, kinds := [], alts := [], laidByText := true, laidKinds := [.data, .data, .data, .sentinel, .sentinel], laidTests := true, laidLooks := .later }
def FnExactDecNumUptoCardSaid : Prop := Claim7.holds Tryd.pinned (.plain (OpenSpec.upto fnExactDecNumSpec)) fnExactDecNumUptoCard

/-- THE SECOND FORM's CARD OF 'laws.FnWords'. -/
def fnWordsUptoCard : Claim7 := { stood := { row := fnWordsUptoRow, standIns := [], harness := (true, "29a609abd45ee499774fe09d230e9a4e49b9d6ed9129474c72253c4419161553"), looks := true }, kinds := [], alts := [], laidByText := true, laidKinds := [.data, .data, .data, .sentinel, .sentinel], laidTests := true, laidLooks := .later }
def FnWordsUptoCardSaid : Prop := Claim7.holds Tryd.pinned (.plain (OpenSpec.upto fnWordsSpec)) fnWordsUptoCard
end Rows
end Go.Proofs.YtjoiebnjpipenaaDoor
