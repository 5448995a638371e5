/-
  DERIVED. GIVEN WITH THE SEED: THE CARDS: each row of YtedmjlhgpdeafaaDoorRows.lean that lists a variable, with what it lists TIED to the program's text (the seventh form; the later family's looks); each row that meets fmt, with fmt's text TOLD by the authors' own Lean function (tested against real Go, not proved from fmt's source: count such statements apart). THE CARD IS WHAT COUNTS. Prove the row's statement (the work); the ties are given (YtedmjlhgpdeafaaDoorTie.lean); close each card by the builder's one call (the guide's Derived/Test/ToyasCard.lean, 'card_holds'). Laid BY PROGRAM, IN A SANDBOX (cutbox-door.mjs). By AI agents, Wed Nov 11 2026. No macro, syntax, notation, axiom, sorry.
-/
import Derived.Test.YtedmjlhgpdeafaaDoorRows
import GoSem.ClaimSeven
namespace Go.Proofs.YtedmjlhgpdeafaaDoor
namespace Rows

/-- THE TIED CARD OF 'tumbrellaw34.AsmBlank'. -/
def asmBlankCard : Claim7 := { stood := { row := asmBlankRow, standIns := [], harness := (true, "10781964d974144196577427f7d0c3aa5571c0a90913eb203f7034901b7a4150"), looks := false }, kinds := [], alts := [], laidByText := true, laidKinds := [.data, .pinned], laidTests := true, laidLooks := .later }
def AsmBlankCardSaid : Prop := Claim7.holds Tryd.pinned (.plain (OpenSpec.ofChange asmBlankSpec)) asmBlankCard

/-- THE TIED CARD OF 'tumbrellaw34.AsmPrint'. -/
def asmPrintCard : Claim7 := { stood := { row := asmPrintRow, standIns := [], harness := (true, "10781964d974144196577427f7d0c3aa5571c0a90913eb203f7034901b7a4150"), looks := false }, kinds := [], alts := [], laidByText := true, laidKinds := [.data, .pinned], laidTests := true, laidLooks := .later }
def AsmPrintCardSaid : Prop := Claim7.holds Tryd.pinned (.plain (OpenSpec.ofChange asmPrintSpec)) asmPrintCard

/-- THE TIED CARD OF 'tumbrellaw34.AsmParse'. -/
def asmParseCard : Claim7 := { stood := { row := asmParseRow, standIns := [], harness := (true, "10781964d974144196577427f7d0c3aa5571c0a90913eb203f7034901b7a4150"), looks := false }, kinds := [], alts := [], laidByText := true, laidKinds := [.data, .pinned], laidTests := true, laidLooks := .later }
def AsmParseCardSaid : Prop := Claim7.holds Tryd.pinned (.plain (OpenSpec.ofChange asmParseSpec)) asmParseCard

/-- THE SECOND FORM's CARD OF 'tumbrellaw34.AsmBlank'. -/
def asmBlankUptoCard : Claim7 := { stood := { row := asmBlankUptoRow, standIns := [], harness := (true, "10781964d974144196577427f7d0c3aa5571c0a90913eb203f7034901b7a4150"), looks := false }, kinds := [], alts := [], laidByText := true, laidKinds := [.data, .pinned], laidTests := true, laidLooks := .later }
def AsmBlankUptoCardSaid : Prop := Claim7.holds Tryd.pinned (.plain (OpenSpec.upto asmBlankSpec)) asmBlankUptoCard

/-- THE SECOND FORM's CARD OF 'tumbrellaw34.AsmPrint'. -/
def asmPrintUptoCard : Claim7 := { stood := { row := asmPrintUptoRow, standIns := [], harness := (true, "10781964d974144196577427f7d0c3aa5571c0a90913eb203f7034901b7a4150"), looks := false }, kinds := [], alts := [], laidByText := true, laidKinds := [.data, .pinned], laidTests := true, laidLooks := .later }
def AsmPrintUptoCardSaid : Prop := Claim7.holds Tryd.pinned (.plain (OpenSpec.upto asmPrintSpec)) asmPrintUptoCard

/-- THE SECOND FORM's CARD OF 'tumbrellaw34.AsmParse'. -/
def asmParseUptoCard : Claim7 := { stood := { row := asmParseUptoRow, standIns := [], harness := (true, "10781964d974144196577427f7d0c3aa5571c0a90913eb203f7034901b7a4150"), looks := false }, kinds := [], alts := [], laidByText := true, laidKinds := [.data, .pinned], laidTests := true, laidLooks := .later }
def AsmParseUptoCardSaid : Prop := Claim7.holds Tryd.pinned (.plain (OpenSpec.upto asmParseSpec)) asmParseUptoCard
end Rows
end Go.Proofs.YtedmjlhgpdeafaaDoor
