/- Chapter 24's example. No conditions. -/
import Derived.Test.YtedmjlhgpdeafaaDoorPInstrBytes
import Derived.Test.YtedmjlhgpdeafaaDoorPInstrName
import Derived.Laws.IdiomStrings
namespace Go.Proofs.YtedmjlhgpdeafaaDoor

end Go.Proofs.YtedmjlhgpdeafaaDoor
