/- Chapter 24's example. No conditions. -/
import Derived.Test.YtdmidnmciaediaaInstrBytes
import Derived.Test.YtdmidnmciaediaaInstrName
import Derived.Laws.IdiomStrings
namespace Go.Proofs.Ytdmidnmciaediaa
open Go.RowKit
set_option linter.unusedVariables false
set_option linter.unusedSimpArgs false
theorem wake_bytes : bytesI 17 0 1 2 = [17, 1, 0, 2, 0] := by decide
theorem wake_may : mayB 17 0 1 2 = true := by decide
theorem wake_name : nameB 36 = ⟨#[116, 111, 112, 116, 114]⟩ := rfl
/-- Bytes as a string. -/
def bytesOf (xs : List Int) : ByteArray := ⟨(xs.map (fun x => UInt8.ofNat x.toNat)).toArray⟩
end Go.Proofs.Ytdmidnmciaediaa
