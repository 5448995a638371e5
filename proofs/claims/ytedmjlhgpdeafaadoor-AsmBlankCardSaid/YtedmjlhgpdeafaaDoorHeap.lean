/- Words for memory that is written: one block may change ('grownBy'); cells behind stores. No program in sight, no conditions. -/
import Derived.Test.YtedmjlhgpdeafaaDoorBase
namespace Go.Proofs.YtedmjlhgpdeafaaDoor
open Go.RowKit
set_option linter.unusedVariables false
set_option linter.unusedSimpArgs false
theorem gb_refl (w : World) (r : Option Nat) : w.grownBy w r := ⟨rfl, rfl, rfl, Nat.le_refl _, fun _ _ _ => rfl⟩
theorem gb_drew {W w : World} {r : Option Nat} (h : W.grownBy w r) : W.grownBy w.drew r := ⟨h.os, h.tape, h.output, h.size, h.block⟩
theorem gb_set {W w : World} {b : Nat} (h : W.grownBy w (some b)) (o : Nat) (s : Option Nat) (u : Value) : W.grownBy (w.setCell ⟨b, o, s⟩ u) (some b) :=
  ⟨h.os, h.tape, h.output, by have := h.size; simpa [World.setCell] using this, fun k hk hne => by
    rw [Below.heap_setCell _ _ _ _ (fun e => hne (by rw [e]))]; exact h.block k hk hne⟩
theorem gb_setnew {W w : World} {r : Option Nat} (h : W.grownBy w r) {a : Addr} (ha : W.heap.size ≤ a.block) (u : Value) : W.grownBy (w.setCell a u) r :=
  ⟨h.os, h.tape, h.output, by have := h.size; simpa [World.setCell] using this, fun k hk hne => by
    rw [Below.heap_setCell _ _ _ _ (by omega)]; exact h.block k hk hne⟩
theorem gb_alloc {W w : World} {r : Option Nat} (h : W.grownBy w r) (o : Obj) : W.grownBy (w.alloc o) r :=
  ⟨h.os, h.tape, h.output, by have := h.size; simp; omega, fun k hk hne => by
    rw [Below.heap_alloc _ _ _ (Nat.lt_of_lt_of_le hk h.size)]; exact h.block k hk hne⟩
theorem gb_trans {W w w' : World} {r : Option Nat} (h : W.grownBy w r) (h' : w.grownBy w' r) : W.grownBy w' r :=
  ⟨h'.os.trans h.os, h'.tape.trans h.tape, h'.output.trans h.output, Nat.le_trans h.size h'.size, fun k hk hne => (h'.block k (Nat.lt_of_lt_of_le hk h.size) hne).trans (h.block k hk hne)⟩
theorem gb_below {W w w' : World} {r : Option Nat} (h : W.grownBy w r) (h' : Below w.heap.size w w') : W.grownBy w' r :=
  ⟨h'.os.trans h.os, h'.tape.trans h.tape, h'.output.trans h.output, Nat.le_trans h.size h'.size, fun k hk hne => (h'.block k (Nat.lt_of_lt_of_le hk h.size)).trans (h.block k hk hne)⟩
theorem gb_of {W w : World} (h : Below W.heap.size W w) (r : Option Nat) : W.grownBy w r := ⟨h.os, h.tape, h.output, h.size, fun k hk _ => h.block k hk⟩
/-- A block that was new is written: of the older ones nothing turns. -/
theorem b_grown {W w w' : World} {b : Nat} (h : Below W.heap.size W w) (hg : w.grownBy w' (some b)) (hb : W.heap.size ≤ b) : Below W.heap.size W w' :=
  h.grown hg h.size (fun k e => by cases e; exact hb)
theorem gb_cell {w w' : World} {b : Nat} (h : w.grownBy w' (some b)) : (∀ k o, k < w.heap.size → k ≠ b → w'.cell? ⟨k, o, none⟩ = w.cell? ⟨k, o, none⟩) ∧ (∀ k o, k < w.heap.size → k ≠ b → w'.frozen? ⟨k, o, none⟩ = w.frozen? ⟨k, o, none⟩) :=
  ⟨fun k o hk hn => World.cell?_of_block (w := w) (h.block k hk (by simpa using hn)), fun k o hk hn => World.frozen?_of_block (w := w) (h.block k hk (by simpa using hn))⟩
theorem cell_set {w : World} {b o : Nat} {old : Value} (h : w.cell? ⟨b, o, none⟩ = some old) (v : Value) (o' : Nat) :
    (w.setCell ⟨b, o, none⟩ v).cell? ⟨b, o', none⟩ = if o' = o then some v else w.cell? ⟨b, o', none⟩ := by
  split
  · rename_i e; subst e; exact World.cell?_setCell_same _ _ _ h
  · rename_i e; exact World.cell?_setCell_other _ _ _ _ (fun h => e (by cases h; rfl))
theorem gb_drewN {W w : World} {r : Option Nat} (h : W.grownBy w r) (n : Nat) : W.grownBy (w.drewN n) r := ⟨h.os, h.tape, h.output, h.size, h.block⟩
theorem b_drewN {W w : World} (h : Below W.heap.size W w) (n : Nat) : Below W.heap.size W (w.drewN n) := ⟨h.os, h.tape, h.output, h.size, h.block⟩
theorem below_gb {W w w' : World} {r : Option Nat} (h : Below W.heap.size W w) (h' : w.grownBy w' r) : W.grownBy w' r :=
  ⟨h'.os.trans h.os, h'.tape.trans h.tape, h'.output.trans h.output, Nat.le_trans h.size h'.size, fun k hk hne => (h'.block k (Nat.lt_of_lt_of_le hk h.size) hne).trans (h.block k hk)⟩
end Go.Proofs.YtedmjlhgpdeafaaDoor
