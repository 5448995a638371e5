/- A row of truths that came in reads as a list. No conditions. -/
import Derived.Test.YtdmidnmciaediaaOpnV
import Derived.Test.YtdmidnmciaediaaVerH
namespace Go.Proofs.Ytdmidnmciaediaa
open Go.ChangeShapes Go.WideShapes Go.Deep Go.RowKit
set_option linter.unusedVariables false
set_option linter.unusedSimpArgs false
section
variable {H : Type} {enc : TypeId × Value → H} {w : World} {base : Nat} {spare : Nat → Bool} {held : Bool}
theorem open_boo {t : TypeId} {n : Nat} {cs : List Value} {y : DataW H × List MemPlace} (ht : Try.prog.underlying t = some .bool) (h : DataW.trod enc Try.prog w base spare held n t cs = some y) : ∃ a : Bool, cs = [.bool a] := by
  obtain ⟨a, e, _⟩ := DataW.trod_bool ht h
  exact ⟨a, e⟩
theorem open_bolE {fuel : Nat} {a : Option Addr} {len cap : Nat} {x : DataW H × List MemPlace} (h : DataW.trod enc Try.prog w base spare held fuel 96 [.slice a len cap] = some x) : ∃ L : List Bool, ReadR bolE w (.slice a len cap) L := by
  obtain ⟨L, h1, _⟩ := open_rows bolE (fun _ => True) Try.underlying96 (by kernel_rfl) (fun n cs y htr hl => by
    obtain ⟨a, e⟩ := open_boo Try.underlying4 htr
    exact ⟨a, e, trivial⟩) h
  exact ⟨L, h1⟩
end
end Go.Proofs.Ytdmidnmciaediaa
