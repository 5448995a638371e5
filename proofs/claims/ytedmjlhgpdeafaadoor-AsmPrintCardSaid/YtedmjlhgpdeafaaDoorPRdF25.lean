/- Layer 25: a reader's functions. Conditions: the reader stands, its bytes are bytes. -/
import Derived.Test.YtedmjlhgpdeafaaDoorPRd25
import Derived.Test.YtedmjlhgpdeafaaDoorPInstrReadAll
namespace Go.Proofs.YtedmjlhgpdeafaaDoor

end Go.Proofs.YtedmjlhgpdeafaaDoor
