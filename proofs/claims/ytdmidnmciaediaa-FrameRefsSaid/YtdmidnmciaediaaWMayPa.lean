/- Layer 25: the program's own May. Conditions: what is asked reads as lists. Layer 25: the program's own May. Conditions: what is asked reads as lists. Layer 25: the program's own May. Conditions: what is asked reads as lists. -/
import Derived.Test.YtdmidnmciaediaaWMayR25
namespace Go.Proofs.Ytdmidnmciaediaa
section
open Go.RowKit
set_option linter.unusedVariables false
set_option linter.unusedSimpArgs false
attribute [local go_sem] over_cell over_frozen
def mayI (i : In4) : Bool := mayB i.op i.x i.a i.b
end
end Go.Proofs.Ytdmidnmciaediaa
