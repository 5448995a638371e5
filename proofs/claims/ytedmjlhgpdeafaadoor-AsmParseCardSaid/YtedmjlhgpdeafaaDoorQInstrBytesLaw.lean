/- Layer 24, plain: the bytes of an instruction that may be are read as it was, whatever stands behind them. No conditions beside those stated. -/
import Derived.Test.YtedmjlhgpdeafaaDoorQInstrRRead
namespace Go.Proofs.YtedmjlhgpdeafaaDoor
open Go.RowKit
set_option linter.unusedVariables false
set_option linter.unusedSimpArgs false
theorem isBytes_nil : IsBytes [] := fun x hx => by cases hx
theorem isBytes_append {xs ys : List Int} (h : IsBytes xs) (h' : IsBytes ys) : IsBytes (xs ++ ys) := fun x hx => by
  rcases List.mem_append.1 hx with q | q
  · exact h x q
  · exact h' x q
theorem isBytes_putL (n : Nat) (v : Int) : IsBytes (putL n v) := fun x hx => by
  unfold putL at hx
  obtain ⟨k, _, rfl⟩ := List.mem_map.1 hx
  unfold byteAt
  omega
theorem isBytes_bytesI (op x a b : Int) : IsBytes (bytesI op x a b) := by
  have h1 : IsBytes [op % 256] := fun y hy => by
    rcases List.mem_cons.1 hy with rfl | q
    · omega
    · cases q
  have h2 : ∀ (c : Prop) [Decidable c] n v, IsBytes (if c then putL n v else []) := fun c _ n v => by
    split
    · exact isBytes_putL _ _
    · exact isBytes_nil
  unfold bytesI
  exact isBytes_append (isBytes_append (isBytes_append h1 (h2 _ _ _)) (h2 _ _ _)) (h2 _ _ _)
theorem bytesI_sz (op x a b : Int) : (bytesI op x a b).length = szR op := by
  rw [bytesI_length]; unfold szR
  rcases kinds op with ⟨_, k2, k3⟩ | ⟨_, k2, k3⟩ | ⟨_, k2, k3⟩ | ⟨_, k2, k3⟩ | ⟨_, k2, k3⟩ <;> rw [k2, k3] <;> rfl
end Go.Proofs.YtedmjlhgpdeafaaDoor
