/- Layer 25: what a program's bytes say, read as lists; a reader's state. No conditions beside those stated. -/
import Derived.Test.YtedmjlhgpdeafaaDoorQBytM
import Derived.Test.YtedmjlhgpdeafaaDoorQInstrRead
namespace Go.Proofs.YtedmjlhgpdeafaaDoor

end Go.Proofs.YtedmjlhgpdeafaaDoor
