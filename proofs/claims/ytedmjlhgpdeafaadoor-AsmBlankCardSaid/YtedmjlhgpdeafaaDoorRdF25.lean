/- Layer 25: a reader's functions. Conditions: the reader stands, its bytes are bytes. -/
import Derived.Test.YtedmjlhgpdeafaaDoorRd25
import Derived.Test.YtedmjlhgpdeafaaDoorInstrReadAll
namespace Go.Proofs.YtedmjlhgpdeafaaDoor
open Go.RowKit
set_option linter.unusedVariables false
set_option linter.unusedSimpArgs false
end Go.Proofs.YtedmjlhgpdeafaaDoor
