/- Layer 25: a reader's instructions. Conditions: the reader stands, its bytes are bytes. -/
import Derived.Test.YtedmjlhgpdeafaaDoorQRdF25
import Derived.Test.YtedmjlhgpdeafaaDoorQOurs25
namespace Go.Proofs.YtedmjlhgpdeafaaDoor

end Go.Proofs.YtedmjlhgpdeafaaDoor
