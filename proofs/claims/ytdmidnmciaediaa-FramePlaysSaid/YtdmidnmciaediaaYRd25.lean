/- Layer 25: what a program's bytes say, read as lists; a reader's state. No conditions beside those stated. -/
import Derived.Test.YtdmidnmciaediaaYBytM
import Derived.Test.YtdmidnmciaediaaYInstrRead
namespace Go.Proofs.Ytdmidnmciaediaa

end Go.Proofs.Ytdmidnmciaediaa
