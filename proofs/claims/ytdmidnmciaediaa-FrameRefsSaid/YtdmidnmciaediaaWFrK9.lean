/- Layer 28: the law's step. Conditions: those stated. -/
import Derived.Test.YtdmidnmciaediaaWFrK
import Derived.Test.YtdmidnmciaediaaWFrK1
import Derived.Test.YtdmidnmciaediaaWFrK4
import Derived.Test.YtdmidnmciaediaaWFrK5
import Derived.Deep.DeepCutAuto
import Derived.BigQuiet
namespace Go.Proofs.Ytdmidnmciaediaa
open Go.RowKit
set_option linter.unusedVariables false
set_option linter.unusedSimpArgs false
attribute [local go_sem] over_cell over_frozen
variable {w0 w w' w2 : World} {r s : Nat} {p q : PrV} {P : PrM} {L L' LF LD LX : List FrM} {m : FrM} {v0 : World} {n0 : Nat}
theorem lstep_any (h : PAt n0 w s p P L) (hd : DAt v0 w r q L) (hv : v0.heap.size ≤ n0) (hP : ReadP v0 q P) (hS : SmallP P) (hL : LInv P L) (o : OpM) {a : Option Addr} {c : Nat} (ha : ReadR valE v0 (.slice a o.args.length c) o.args) : Calls Try.prog 25 #[fp s, rp r, aggOp o.kind o.f o.k o.v a o.args.length c o.fit] w (StepEnd n0 v0 s p r q P) := by
  by_cases g0 : o.kind = 0
  · exact lstep_0 h hd hv hP hS hL o ha g0
  by_cases g1 : o.kind = 1
  · exact lstep_1 h hd hv hP hS hL o ha g1
  by_cases g2 : o.kind = 2
  · exact lstep_2 h hd hv hP hS hL o ha g2
  by_cases g3 : o.kind = 3
  · exact lstep_3 h hd hv hP hS hL o ha g3
  by_cases g4 : o.kind = 4
  · exact lstep_4 h hd hv hP hS hL o ha g4
  by_cases g5 : o.kind = 5
  · exact lstep_5 h hd hv hP hS hL o ha g5
  by_cases g6 : o.kind = 6
  · exact lstep_6 h hd hv hP hS hL o ha g6
  by_cases g7 : o.kind = 7
  · exact lstep_7 h hd hv hP hS hL o ha g7
  exact lstep_x h hd hv hP hS hL o ha ⟨g0, g1, g2, g3, g4, g5, g6, g7⟩
end Go.Proofs.Ytdmidnmciaediaa
