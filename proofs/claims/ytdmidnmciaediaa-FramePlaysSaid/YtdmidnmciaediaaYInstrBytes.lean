/- Layer 24: instructions as bytes, and back: ours and the document's. Conditions: those stated. -/
import Derived.Test.YtdmidnmciaediaaYBytes
import Derived.Laws.OwnMore
namespace Go.Proofs.Ytdmidnmciaediaa

end Go.Proofs.Ytdmidnmciaediaa
