/- A block of cells that is known whole: a struct's, or a made slice's. No program in sight, no conditions. -/
import Derived.Test.YtedmjlhgpdeafaaDoorHeap
namespace Go.Proofs.YtedmjlhgpdeafaaDoor
open Go.RowKit
set_option linter.unusedVariables false
set_option linter.unusedSimpArgs false
/-- Block 'g' begins with these cells, and may be written. -/
def Blk (w : World) (g : Nat) (vs : List Value) : Prop := g < w.heap.size ∧ (∀ i, (h : i < vs.length) → w.cell? ⟨g, i, none⟩ = some vs[i]) ∧ ∀ i, w.frozen? ⟨g, i, none⟩ = false
theorem blk_new (w : World) (c : Array Value) (T : TypeId) : Blk (w.alloc (.cells c T)) w.heap.size c.toList := by
  refine ⟨by simp, fun i h => ?_, fun i => by simp⟩
  rw [World.cell?_alloc_new]
  rw [Array.getElem?_eq_getElem (by simpa using h)]; simp
theorem blk_below {w w1 : World} {g : Nat} {vs : List Value} (h : Blk w g vs) (hb : Below w.heap.size w w1) : Blk w1 g vs :=
  ⟨Nat.lt_of_lt_of_le h.1 hb.size, fun i hi => by rw [(bcell hb).1 _ _ h.1]; exact h.2.1 i hi, fun i => by rw [(bcell hb).2 _ _ h.1]; exact h.2.2 i⟩
theorem blk_alloc {w : World} {g : Nat} {vs : List Value} (h : Blk w g vs) (o : Obj) : Blk (w.alloc o) g vs := blk_below h (b_alloc (Below.refl _ _) o)
theorem blk_over {w : World} {g : Nat} {vs : List Value} (h : Blk w g vs) (x : World) : Blk (over w x) g vs := blk_below h (over_below w x)
theorem blk_drew {w : World} {g : Nat} {vs : List Value} (h : Blk w g vs) : Blk w.drew g vs := h
theorem blk_drewN {w : World} {g : Nat} {vs : List Value} (h : Blk w g vs) (n : Nat) : Blk (w.drewN n) g vs := h
theorem blk_born {w w1 : World} {c : Array Value} {T : TypeId} (hb : Below (w.alloc (.cells c T)).heap.size (w.alloc (.cells c T)) w1) : Blk w1 w.heap.size c.toList := blk_below (blk_new w c T) hb
theorem blk_set {w : World} {g : Nat} {vs : List Value} (h : Blk w g vs) (i : Nat) (u : Value) : Blk (w.setCell ⟨g, i, none⟩ u) g (vs.set i u) := by
  refine ⟨by simpa using h.1, fun j hj => ?_, fun j => by rw [World.frozen?_setCell]; exact h.2.2 j⟩
  have hj' : j < vs.length := by simpa using hj
  by_cases e : j = i
  · subst e
    rw [World.cell?_setCell_same _ _ _ (h.2.1 j hj')]; simp
  · rw [World.cell?_setCell_other _ _ _ _ (fun h => e (by cases h; rfl)), h.2.1 j hj']
    rw [List.getElem_set_ne (fun h => e h.symm)]
theorem blk_other {w : World} {g : Nat} {vs : List Value} (h : Blk w g vs) {p : Addr} (hp : p.block ≠ g) (u : Value) : Blk (w.setCell p u) g vs := by
  refine ⟨by simpa using h.1, fun j hj => ?_, fun j => by rw [World.frozen?_setCell]; exact h.2.2 j⟩
  rw [World.cell?_setCell_other _ _ _ _ (fun e => hp (by rw [e]))]; exact h.2.1 j hj
theorem blk_grown {w w1 : World} {g : Nat} {vs : List Value} {r : Option Nat} (h : Blk w g vs) (hg : w.grownBy w1 r) (hne : some g ≠ r) : Blk w1 g vs :=
  ⟨Nat.lt_of_lt_of_le h.1 hg.size, fun i hi => (World.cell?_of_block (w := w) (hg.block _ h.1 hne)).trans (h.2.1 i hi), fun i => (World.frozen?_of_block (w := w) (hg.block _ h.1 hne)).trans (h.2.2 i)⟩
theorem blk1 {w : World} {g : Nat} {u0 : Value} (h : Blk w g [u0]) : w.cell? ⟨g, 0, none⟩ = some u0 ∧ ∀ i, w.frozen? ⟨g, i, none⟩ = false := ⟨h.2.1 0 (by simp), h.2.2⟩
theorem blk2 {w : World} {g : Nat} {u0 u1 : Value} (h : Blk w g [u0, u1]) : w.cell? ⟨g, 0, none⟩ = some u0 ∧ w.cell? ⟨g, 1, none⟩ = some u1 ∧ ∀ i, w.frozen? ⟨g, i, none⟩ = false := ⟨h.2.1 0 (by simp), h.2.1 1 (by simp), h.2.2⟩
theorem blk3 {w : World} {g : Nat} {u0 u1 u2 : Value} (h : Blk w g [u0, u1, u2]) : w.cell? ⟨g, 0, none⟩ = some u0 ∧ w.cell? ⟨g, 1, none⟩ = some u1 ∧ w.cell? ⟨g, 2, none⟩ = some u2 ∧ ∀ i, w.frozen? ⟨g, i, none⟩ = false := ⟨h.2.1 0 (by simp), h.2.1 1 (by simp), h.2.1 2 (by simp), h.2.2⟩
theorem blk4 {w : World} {g : Nat} {u0 u1 u2 u3 : Value} (h : Blk w g [u0, u1, u2, u3]) : w.cell? ⟨g, 0, none⟩ = some u0 ∧ w.cell? ⟨g, 1, none⟩ = some u1 ∧ w.cell? ⟨g, 2, none⟩ = some u2 ∧ w.cell? ⟨g, 3, none⟩ = some u3 ∧ ∀ i, w.frozen? ⟨g, i, none⟩ = false := ⟨h.2.1 0 (by simp), h.2.1 1 (by simp), h.2.1 2 (by simp), h.2.1 3 (by simp), h.2.2⟩
end Go.Proofs.YtedmjlhgpdeafaaDoor
