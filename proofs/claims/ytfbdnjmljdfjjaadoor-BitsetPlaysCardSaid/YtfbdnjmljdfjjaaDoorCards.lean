/-
  DERIVED. GIVEN WITH THE SEED: THE CARDS: each row of YtfbdnjmljdfjjaaDoorRows.lean that lists a variable, with what it lists TIED to the program's text (the seventh form; the later family's looks); each row that meets fmt, with fmt's text TOLD by the authors' own Lean function (tested against real Go, not proved from fmt's source: count such statements apart). THE CARD IS WHAT COUNTS. Prove the row's statement (the work); the ties are given (YtfbdnjmljdfjjaaDoorTie.lean); close each card by the builder's one call (the guide's Derived/Test/ToyasCard.lean, 'card_holds'). Laid BY PROGRAM, IN A SANDBOX (cutbox-door.mjs). By AI agents, Wed Nov 11 2026. No macro, syntax, notation, axiom, sorry.
-/
import Derived.Test.YtfbdnjmljdfjjaaDoorRows
import GoSem.ClaimSeven
namespace Go.Proofs.YtfbdnjmljdfjjaaDoor
namespace Rows

/-- THE TIED CARD OF 'tumbrellaw02.BitsetGoes'. -/
def bitsetGoesCard : Claim7 := { stood := { row := bitsetGoesRow, standIns := [], harness := (true, "213a9de85b2d342e75d0910f92b5b55c445ebff38bff3a15dbf33cd720098a75"), looks := false }, kinds := [], alts := [], laidByText := true, laidKinds := [.data], laidTests := true, laidLooks := .later }
def BitsetGoesCardSaid : Prop := Claim7.holds Tryd.pinned (.plain (OpenSpec.ofChange bitsetGoesSpec)) bitsetGoesCard

/-- THE TIED CARD OF 'tumbrellaw02.BitsetSame'. -/
def bitsetSameCard : Claim7 := { stood := { row := bitsetSameRow, standIns := [], harness := (true, "213a9de85b2d342e75d0910f92b5b55c445ebff38bff3a15dbf33cd720098a75"), looks := false }, kinds := [], alts := [], laidByText := true, laidKinds := [.data], laidTests := true, laidLooks := .later }
def BitsetSameCardSaid : Prop := Claim7.holds Tryd.pinned (.plain (OpenSpec.ofChange bitsetSameSpec)) bitsetSameCard

/-- THE TIED CARD OF 'tumbrellaw02.BitsetPlays'. -/
def bitsetPlaysCard : Claim7 := { stood := { row := bitsetPlaysRow, standIns := [], harness := (true, "213a9de85b2d342e75d0910f92b5b55c445ebff38bff3a15dbf33cd720098a75"), looks := false }, kinds := [], alts := [], laidByText := true, laidKinds := [.data], laidTests := true, laidLooks := .later }
def BitsetPlaysCardSaid : Prop := Claim7.holds Tryd.pinned (.plain (OpenSpec.ofChange bitsetPlaysSpec)) bitsetPlaysCard

/-- THE TIED CARD OF 'tumbrellaw02.BitsetEnds'. -/
def bitsetEndsCard : Claim7 := { stood := { row := bitsetEndsRow, standIns := [], harness := (true, "213a9de85b2d342e75d0910f92b5b55c445ebff38bff3a15dbf33cd720098a75"), looks := false }, kinds := [], alts := [], laidByText := true, laidKinds := [.data], laidTests := true, laidLooks := .later }
def BitsetEndsCardSaid : Prop := Claim7.holds Tryd.pinned (.plain (OpenSpec.ofChange bitsetEndsSpec)) bitsetEndsCard

/-- THE SECOND FORM's CARD OF 'tumbrellaw02.BitsetGoes'. -/
def bitsetGoesUptoCard : Claim7 := { stood := { row := bitsetGoesUptoRow, standIns := [], harness := (true, "213a9de85b2d342e75d0910f92b5b55c445ebff38bff3a15dbf33cd720098a75"), looks := false }, kinds := [], alts := [], laidByText := true, laidKinds := [.data], laidTests := true, laidLooks := .later }
def BitsetGoesUptoCardSaid : Prop := Claim7.holds Tryd.pinned (.plain (OpenSpec.upto bitsetGoesSpec)) bitsetGoesUptoCard

/-- THE SECOND FORM's CARD OF 'tumbrellaw02.BitsetSame'. -/
def bitsetSameUptoCard : Claim7 := { stood := { row := bitsetSameUptoRow, standIns := [], harness := (true, "213a9de85b2d342e75d0910f92b5b55c445ebff38bff3a15dbf33cd720098a75"), looks := false }, kinds := [], alts := [], laidByText := true, laidKinds := [.data], laidTests := true, laidLooks := .later }
def BitsetSameUptoCardSaid : Prop := Claim7.holds Tryd.pinned (.plain (OpenSpec.upto bitsetSameSpec)) bitsetSameUptoCard

/-- THE SECOND FORM's CARD OF 'tumbrellaw02.BitsetPlays'. -/
def bitsetPlaysUptoCard : Claim7 := { stood := { row := bitsetPlaysUptoRow, standIns := [], harness := (true, "213a9de85b2d342e75d0910f92b5b55c445ebff38bff3a15dbf33cd720098a75"), looks := false }, kinds := [], alts := [], laidByText := true, laidKinds := [.data], laidTests := true, laidLooks := .later }
def BitsetPlaysUptoCardSaid : Prop := Claim7.holds Tryd.pinned (.plain (OpenSpec.upto bitsetPlaysSpec)) bitsetPlaysUptoCard

/-- THE SECOND FORM's CARD OF 'tumbrellaw02.BitsetEnds'. -/
def bitsetEndsUptoCard : Claim7 := { stood := { row := bitsetEndsUptoRow, standIns := [], harness := (true, "213a9de85b2d342e75d0910f92b5b55c445ebff38bff3a15dbf33cd720098a75"), looks := false }, kinds := [], alts := [], laidByText := true, laidKinds := [.data], laidTests := true, laidLooks := .later }
def BitsetEndsUptoCardSaid : Prop := Claim7.holds Tryd.pinned (.plain (OpenSpec.upto bitsetEndsSpec)) bitsetEndsUptoCard
end Rows
end Go.Proofs.YtfbdnjmljdfjjaaDoor
