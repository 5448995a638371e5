/- Chapter 24's example. No conditions. -/
import Derived.Test.YtdmidnmciaediaaYInstrBytes
import Derived.Test.YtdmidnmciaediaaYInstrName
import Derived.Laws.IdiomStrings
namespace Go.Proofs.Ytdmidnmciaediaa

end Go.Proofs.Ytdmidnmciaediaa
