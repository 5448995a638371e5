/- InstrRead, walked: whatever bytes, the answer is true. Conditions: the slice reads as bytes. -/
import Derived.Test.YtedmjlhgpdeafaaDoorInstrRRead
namespace Go.Proofs.YtedmjlhgpdeafaaDoor
open Go.RowKit
set_option linter.unusedVariables false
set_option linter.unusedSimpArgs false
attribute [local go_sem] over_cell over_frozen
theorem isBytes_take' {xs : List Int} (h : IsBytes xs) (k : Nat) : IsBytes (xs.take k) := isBytes_take h k
theorem szR_pos (op : Int) : 0 < szR op := by unfold szR; omega
end Go.Proofs.YtedmjlhgpdeafaaDoor
