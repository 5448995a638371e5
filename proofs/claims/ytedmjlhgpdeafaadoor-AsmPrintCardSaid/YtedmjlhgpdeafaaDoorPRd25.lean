/- Layer 25: what a program's bytes say, read as lists; a reader's state. No conditions beside those stated. -/
import Derived.Test.YtedmjlhgpdeafaaDoorPBytM
import Derived.Test.YtedmjlhgpdeafaaDoorPInstrRead
namespace Go.Proofs.YtedmjlhgpdeafaaDoor

end Go.Proofs.YtedmjlhgpdeafaaDoor
