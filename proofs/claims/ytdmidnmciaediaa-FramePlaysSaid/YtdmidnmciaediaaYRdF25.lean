/- Layer 25: a reader's functions. Conditions: the reader stands, its bytes are bytes. -/
import Derived.Test.YtdmidnmciaediaaYRd25
import Derived.Test.YtdmidnmciaediaaYInstrReadAll
namespace Go.Proofs.Ytdmidnmciaediaa

end Go.Proofs.Ytdmidnmciaediaa
