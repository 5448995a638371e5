/- Layer 25: a reader's instructions. Conditions: the reader stands, its bytes are bytes. -/
import Derived.Test.YtedmjlhgpdeafaaDoorRdF25
import Derived.Test.YtedmjlhgpdeafaaDoorOurs25
namespace Go.Proofs.YtedmjlhgpdeafaaDoor
open Go.RowKit
set_option linter.unusedVariables false
set_option linter.unusedSimpArgs false
def mapC {α : Type} (done : List α) (R : Option (List α × List Int)) : Option (List α × List Int) := match R with
  | none => none
  | some (c, r) => some (done ++ c, r)
theorem rdCode_no {n : Nat} {b : List Int} (h : okR b = false) : rdCode (n + 1) b = none := by unfold rdCode; rw [h]; rfl
theorem rdCode_ok {n : Nat} {b : List Int} (h : okR b = true) (done : List In4) : mapC done (rdCode (n + 1) b) = mapC (done ++ [insR b]) (rdCode n (b.drop (szR (opR b)))) := by
  conv => lhs; unfold rdCode
  rw [if_pos h]
  cases rdCode n (b.drop (szR (opR b))) with
  | none => rfl
  | some p => obtain ⟨c, r⟩ := p; simp [mapC]
theorem okR_len {b : List Int} (h : okR b = true) : 1 ≤ szR (opR b) ∧ szR (opR b) ≤ b.length := by
  unfold okR at h
  simp only [Bool.and_eq_true] at h
  exact ⟨by unfold szR; omega, of_decide_eq_true h.2⟩
theorem insR_good {b : List Int} (hb : IsBytes b) : True := trivial
end Go.Proofs.YtedmjlhgpdeafaaDoor
