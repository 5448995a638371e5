/- Layer 24: an instruction read by the document's own Read. Conditions: the slice reads as bytes, of fewer than 2^38. -/
import Derived.Test.YtdmidnmciaediaaYInstrRead
import Derived.Test.YtdmidnmciaediaaYBase
namespace Go.Proofs.Ytdmidnmciaediaa

end Go.Proofs.Ytdmidnmciaediaa
