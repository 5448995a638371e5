/- Layer 24: an instruction read: ours and the document's. Conditions: the slice reads as bytes, of fewer than 2^38. -/
import Derived.Test.YtdmidnmciaediaaYInstrWake
namespace Go.Proofs.Ytdmidnmciaediaa

end Go.Proofs.Ytdmidnmciaediaa
