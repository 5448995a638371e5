/- Layer 26: the program's deals, part 3. Conditions: those stated. Layer 26: the program's deals, whatever the instruction. Conditions: those stated. -/
import Derived.Test.YtdmidnmciaediaaWVer5
import Derived.Test.YtdmidnmciaediaaWHeldE
import Derived.Test.YtdmidnmciaediaaWVerE1
namespace Go.Proofs.Ytdmidnmciaediaa

end Go.Proofs.Ytdmidnmciaediaa
