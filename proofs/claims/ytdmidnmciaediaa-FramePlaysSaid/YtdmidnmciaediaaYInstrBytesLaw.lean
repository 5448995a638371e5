/- Layer 24, plain: the bytes of an instruction that may be are read as it was, whatever stands behind them. No conditions beside those stated. -/
import Derived.Test.YtdmidnmciaediaaYInstrRRead
namespace Go.Proofs.Ytdmidnmciaediaa

end Go.Proofs.Ytdmidnmciaediaa
