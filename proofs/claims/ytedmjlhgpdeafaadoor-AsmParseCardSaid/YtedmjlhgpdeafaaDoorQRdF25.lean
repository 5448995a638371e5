/- Layer 25: a reader's functions. Conditions: the reader stands, its bytes are bytes. -/
import Derived.Test.YtedmjlhgpdeafaaDoorQRd25
import Derived.Test.YtedmjlhgpdeafaaDoorQInstrReadAll
namespace Go.Proofs.YtedmjlhgpdeafaaDoor

end Go.Proofs.YtedmjlhgpdeafaaDoor
