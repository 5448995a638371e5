/- Layer 24: an instruction read: ours and the document's. Conditions: the slice reads as bytes, of fewer than 2^38. -/
import Derived.Test.YtedmjlhgpdeafaaDoorQInstrWake
namespace Go.Proofs.YtedmjlhgpdeafaaDoor
open Go.RowKit
set_option linter.unusedVariables false
set_option linter.unusedSimpArgs false
attribute [local go_sem] over_cell over_frozen
def szR (op : Int) : Nat := 1 + 2 * (shN op).toNat + (if shX op = true then 8 else 0)
theorem kinds (op : Int) : (shOk op = false ∧ shN op = 0 ∧ shX op = false) ∨ (shOk op = true ∧ shN op = 0 ∧ shX op = false) ∨ (shOk op = true ∧ shN op = 0 ∧ shX op = true) ∨ (shOk op = true ∧ shN op = 1 ∧ shX op = false) ∨ (shOk op = true ∧ shN op = 2 ∧ shX op = false) := by
  have h := kind_le op
  unfold shOk shN shX
  generalize kindOf op = n at h
  match n, h with
  | 0, _ => exact Or.inr (Or.inl ⟨rfl, rfl, rfl⟩)
  | 1, _ => exact Or.inr (Or.inr (Or.inl ⟨rfl, rfl, rfl⟩))
  | 2, _ => exact Or.inr (Or.inr (Or.inr (Or.inl ⟨rfl, rfl, rfl⟩)))
  | 3, _ => exact Or.inr (Or.inr (Or.inr (Or.inr ⟨rfl, rfl, rfl⟩)))
  | 4, _ => exact Or.inl ⟨rfl, rfl, rfl⟩
end Go.Proofs.YtedmjlhgpdeafaaDoor
