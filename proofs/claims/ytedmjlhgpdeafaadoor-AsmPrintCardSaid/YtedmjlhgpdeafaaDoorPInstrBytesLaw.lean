/- Layer 24, plain: the bytes of an instruction that may be are read as it was, whatever stands behind them. No conditions beside those stated. -/
import Derived.Test.YtedmjlhgpdeafaaDoorPInstrRRead
namespace Go.Proofs.YtedmjlhgpdeafaaDoor

end Go.Proofs.YtedmjlhgpdeafaaDoor
