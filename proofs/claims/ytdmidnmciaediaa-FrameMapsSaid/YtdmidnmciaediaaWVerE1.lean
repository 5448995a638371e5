/- Layer 26: the program's deals, part 1. Conditions: those stated. Layer 26: the program's deals, part 2. Conditions: those stated. -/
import Derived.Test.YtdmidnmciaediaaWVer5
import Derived.Test.YtdmidnmciaediaaWHeldE
namespace Go.Proofs.Ytdmidnmciaediaa

end Go.Proofs.Ytdmidnmciaediaa
