/- Layer 25: a reader's instructions. Conditions: the reader stands, its bytes are bytes. -/
import Derived.Test.YtdmidnmciaediaaYRdF25
import Derived.Test.YtdmidnmciaediaaYOurs25
namespace Go.Proofs.Ytdmidnmciaediaa

end Go.Proofs.Ytdmidnmciaediaa
