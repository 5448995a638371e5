/- Layer 25's own may: the document's answer. Conditions: the program reads as lists. Layer 25: are two lists the same; a local's kind. Conditions: the lists are read as such. -/
import Derived.Test.YtdmidnmciaediaaYOurs25
namespace Go.Proofs.Ytdmidnmciaediaa

end Go.Proofs.Ytdmidnmciaediaa
