/- Layer 24: an instruction read: ours and the document's. Conditions: the slice reads as bytes, of fewer than 2^38. -/
import Derived.Test.YtedmjlhgpdeafaaDoorPInstrWake
namespace Go.Proofs.YtedmjlhgpdeafaaDoor

end Go.Proofs.YtedmjlhgpdeafaaDoor
