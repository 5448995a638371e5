/- Layer 26: the contract of the program's turn. Conditions: those stated. Layer 26: the contract of the program's effect. Conditions: those stated. -/
import Derived.Test.YtdmidnmciaediaaWVer4
import Derived.Test.YtdmidnmciaediaaWHeldE
import Derived.Test.YtdmidnmciaediaaWVerE3
namespace Go.Proofs.Ytdmidnmciaediaa
section
open Go.RowKit
set_option linter.unusedVariables false
set_option linter.unusedSimpArgs false
attribute [local go_sem] over_cell over_frozen
theorem concat_n {a1 a2 : Option Addr} {n1 n2 c1 c2 r : Nat} {xs ys : List Int} {w : World} (e1 : xs.length = n1) (e2 : ys.length = n2) (h1 : ReadI w (.slice a1 n1 c1) xs) (h2 : ReadI w (.slice a2 n2 c2) ys) (hr : Blk w r [.slice a1 n1 c1, .slice a2 n2 c2]) (hx : n1 ≤ 100) (hy : n2 ≤ 100) : Calls Try.prog 89 #[.slice (some ⟨r, 0, none⟩) 2 2] w (RetI w (xs ++ ys)) := by
  subst e1 e2
  exact concat_any a1 a2 c1 c2 r xs ys w h1 h2 hr hx hy
end
end Go.Proofs.Ytdmidnmciaediaa
