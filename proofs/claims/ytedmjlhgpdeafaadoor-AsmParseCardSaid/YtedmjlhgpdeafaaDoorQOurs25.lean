/- Layer 25's Ours: a program as the program's own. Conditions: the program reads as lists, and is not too great. -/
import Derived.Test.YtedmjlhgpdeafaaDoorQTypP
import Derived.Test.YtedmjlhgpdeafaaDoorQBytes
namespace Go.Proofs.YtedmjlhgpdeafaaDoor
open Go.RowKit
set_option linter.unusedVariables false
set_option linter.unusedSimpArgs false
attribute [local go_sem] over_cell over_frozen
theorem rowPIn : IsRow Tryd.prog 61 45 4 32 (.agg #[.int .i64 0, .int .u64 0, .int .i64 0, .int .i64 0]) := ⟨Tryd.underlying61, by kernel_rfl, by rfl⟩
theorem blk_new2 {w : World} {c : Array Value} {T : TypeId} {k : Nat} (hk : k = w.heap.size) : Blk (w.alloc (.cells c T)) k c.toList := by rw [hk]; exact blk_new w c T
def FUNT : TypeId := 63
def PROT : TypeId := 33
/-- An instruction's cells, one by one. -/
theorem in_cells {w : World} {b o : Nat} {L : List In4} (h4 : ∀ k, (h : k < L.length) → ∀ j, j < inE.size → w.cell? ⟨b, o + (k * inE.size + j), none⟩ = (inE.cells L[k])[j]?) (k : Nat) (hk : k < L.length) :
    w.cell? ⟨b, o + k * 4, none⟩ = some (.int .i64 L[k].op) ∧ w.cell? ⟨b, o + k * 4 + 1, none⟩ = some (.int .u64 L[k].x) ∧ w.cell? ⟨b, o + k * 4 + 2, none⟩ = some (.int .i64 L[k].a) ∧ w.cell? ⟨b, o + k * 4 + 3, none⟩ = some (.int .i64 L[k].b) := by
  have h4' : ∀ (j : Nat), j < 4 → w.cell? ⟨b, o + k * 4 + j, none⟩ = (inE.cells L[k])[j]? := fun j hj => by
    have := h4 k hk j hj
    rw [Nat.add_assoc]; exact this
  exact ⟨h4' 0 (by omega), h4' 1 (by omega), h4' 2 (by omega), h4' 3 (by omega)⟩
theorem ownR_slOk {α : Type} {c : Elt α} {E : TypeId} {w : World} {B : Nat} {a : Option Addr} {n cap : Nat} {L : List α} (h : OwnR c E w B (.slice a n cap) L) : slOk w E a n := by
  have ht := ownR_ty h
  rcases h.2 with ⟨e, _⟩ | ⟨g, cap, cur, e, _⟩
  · cases e; exact Or.inl rfl
  · cases e; exact Or.inr ⟨g, rfl, ht g rfl⟩
end Go.Proofs.YtedmjlhgpdeafaaDoor
