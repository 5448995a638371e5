/- Layer 25: the program's own May. Conditions: what is asked reads as lists. -/
import Derived.Test.YtdmidnmciaediaaYMayPb
namespace Go.Proofs.Ytdmidnmciaediaa

end Go.Proofs.Ytdmidnmciaediaa
