/- Layer 24: an instruction read by the document's own Read. Conditions: the slice reads as bytes, of fewer than 2^38. -/
import Derived.Test.YtedmjlhgpdeafaaDoorInstrRead
import Derived.Test.YtedmjlhgpdeafaaDoorBlk
namespace Go.Proofs.YtedmjlhgpdeafaaDoor
open Go.RowKit
set_option linter.unusedVariables false
set_option linter.unusedSimpArgs false
theorem tell_no {op : Int} (h : shOk op = true) : ((tellS (kindOf op)).toList == [45]) = false ∧ ¬ (tellS (kindOf op)).toList = [45] := by
  have hk := kind_le op
  have h4 : kindOf op ≠ 4 := by
    intro e; unfold shOk at h; rw [e] at h; cases h
  exact ⟨beq_false_of_ne (tell_ne hk h4), tell_ne hk h4⟩
theorem tell_bad {op : Int} (h : shOk op = false) : kindOf op = 4 := by
  unfold shOk at h
  rcases Nat.lt_or_ge (kindOf op) 4 with q | q
  · rw [show (kindOf op != 4) = true by rw [bne_iff_ne]; omega] at h; cases h
  · have := kind_le op; omega
theorem szR_bytes (op : Int) : (bytesI op 0 0 0).length = szR op := by
  rw [bytesI_length]; unfold szR
  rcases kinds op with ⟨_, k2, k3⟩ | ⟨_, k2, k3⟩ | ⟨_, k2, k3⟩ | ⟨_, k2, k3⟩ | ⟨_, k2, k3⟩ <;> rw [k2, k3] <;> rfl
end Go.Proofs.YtedmjlhgpdeafaaDoor
