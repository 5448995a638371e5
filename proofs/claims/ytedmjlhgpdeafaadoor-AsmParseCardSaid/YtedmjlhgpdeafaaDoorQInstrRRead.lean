/- Layer 24: an instruction read by the document's own Read. Conditions: the slice reads as bytes, of fewer than 2^38. -/
import Derived.Test.YtedmjlhgpdeafaaDoorQInstrRead
import Derived.Test.YtedmjlhgpdeafaaDoorQBase
namespace Go.Proofs.YtedmjlhgpdeafaaDoor

end Go.Proofs.YtedmjlhgpdeafaaDoor
