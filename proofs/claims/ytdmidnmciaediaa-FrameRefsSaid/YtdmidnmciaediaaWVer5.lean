/- Layer 26: the contracts of the program's objects, blocks, reckons. Conditions: those stated. Layer 26: the contract of the program's reckons. Conditions: those stated. Layer 26: the contracts of the program's calls, places. Conditions: those stated. -/
import Derived.Test.YtdmidnmciaediaaWVer4
namespace Go.Proofs.Ytdmidnmciaediaa

end Go.Proofs.Ytdmidnmciaediaa
