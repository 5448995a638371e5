/- Layer 24: instructions as bytes, and back: ours and the document's. Conditions: those stated. -/
import Derived.Test.YtedmjlhgpdeafaaDoorPBytes
import Derived.Laws.OwnMore
namespace Go.Proofs.YtedmjlhgpdeafaaDoor

end Go.Proofs.YtedmjlhgpdeafaaDoor
