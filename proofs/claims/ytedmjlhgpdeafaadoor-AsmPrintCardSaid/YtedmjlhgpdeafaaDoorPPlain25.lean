/- Layer 25's Plain: a program as the document's own. Conditions: the program reads as lists, and is not too great. -/
import Derived.Test.YtedmjlhgpdeafaaDoorPOurs25
import Derived.Test.YtedmjlhgpdeafaaDoorPMayR25
namespace Go.Proofs.YtedmjlhgpdeafaaDoor
open Go.RowKit
set_option linter.unusedVariables false
set_option linter.unusedSimpArgs false
attribute [local go_sem] over_cell over_frozen
def RINSQ : TypeId := 42
/-- What is of a type stays. -/
def KeepE (E : TypeId) (w w' : World) : Prop := w.heap.size ≤ w'.heap.size ∧ ∀ k, tyB w k = some E → w'.heap[k]? = w.heap[k]?
theorem keepE_below {E : TypeId} {w w' : World} (hb : Below w.heap.size w w') : KeepE E w w' := ⟨hb.size, fun k hk => hb.block k (tyB_lt hk)⟩
theorem keepE_grown {E : TypeId} {w w' : World} {r : Option Nat} (hg : w.grownBy w' r) (h : ∀ j, r = some j → ∃ X, tyB w j = some X ∧ X ≠ E) : KeepE E w w' := ⟨hg.size, fun k hk => by
  refine hg.block k (tyB_lt hk) (fun e => ?_)
  obtain ⟨X, hX, h1⟩ := h k e.symm
  rw [hX] at hk; injection hk with h; exact h1 h⟩
theorem keepE_ty {E : TypeId} {w w' : World} (h : KeepE E w w') (k : Nat) (hk : tyB w k = some E) : tyB w' k = some E := by
  rw [tyB_block (h.2 k hk)]; exact hk
theorem keepE_trans {E : TypeId} {a b c : World} (h : KeepE E a b) (h' : KeepE E b c) : KeepE E a c := ⟨Nat.le_trans h.1 h'.1, fun k hk => by rw [h'.2 k (keepE_ty h k hk), h.2 k hk]⟩
/-- One that is made out of one that was there. -/
structure DeepQ (W w : World) (v : FnV) (f : FnM) : Prop where
  p : ReadI W v.p.v f.ps
  l : ReadI W v.l.v f.ls
  r : v.r = f.r
  c : ReadR inE w (.slice v.c.a v.c.n v.c.c) f.code
  s : slOk w RINSQ v.c.a v.c.n
end Go.Proofs.YtedmjlhgpdeafaaDoor
