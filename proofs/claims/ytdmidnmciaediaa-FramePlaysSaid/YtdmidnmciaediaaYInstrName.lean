/- Layer 24: the words of instructions, as instr.Name finds them. No conditions. -/
import Derived.Test.YtdmidnmciaediaaYBytes
namespace Go.Proofs.Ytdmidnmciaediaa

end Go.Proofs.Ytdmidnmciaediaa
