/- Layer 24: instructions as bytes, and back: ours and the document's. Conditions: those stated. -/
import Derived.Test.YtdmidnmciaediaaInstrTwo
import Derived.Laws.OwnMore
namespace Go.Proofs.Ytdmidnmciaediaa
open Go.RowKit
set_option linter.unusedVariables false
set_option linter.unusedSimpArgs false
/-- The bytes of an instruction that may be. -/
def bytesI (op x a b : Int) : List Int := [op % 256] ++ (if shX op = true then putL 8 x else []) ++ (if 0 < shN op then putL 2 a else []) ++ (if 1 < shN op then putL 2 b else [])
theorem bytesI_length (op x a b : Int) : (bytesI op x a b).length = 1 + (if shX op = true then 8 else 0) + (if 0 < shN op then 2 else 0) + (if 1 < shN op then 2 else 0) := by
  unfold bytesI
  simp only [List.length_append, List.length_cons, List.length_nil]
  split <;> split <;> split <;> simp [putL_length]
def RetBytes (w : World) (xs : List Int) (n : Int) (e : Ending) (w' : World) : Prop := ∃ v, e = .returned (.tuple #[v, .int .i64 n]) ∧ OwnB w' w.heap.size v xs ∧ Below w.heap.size w w'
def arg2 (a b : Int) (j : Nat) : Int := if j = 0 then a else b
def preL (base : List Int) (a b : Int) : Nat → List Int
  | 0 => base
  | j + 1 => preL base a b j ++ putL 2 (arg2 a b j)
theorem preL_length (base : List Int) (a b : Int) : ∀ j, (preL base a b j).length = base.length + 2 * j
  | 0 => rfl
  | j + 1 => by rw [preL, List.length_append, preL_length base a b j, putL_length]; omega
theorem ownB_lit {w : World} {B : Nat} (x : Int) (hB : B ≤ w.heap.size) : OwnB (w.alloc (.cells #[.int .u8 x] 5)) B (.slice (some ⟨w.heap.size, 0, none⟩) 1 1) [x] :=
  World.ownsRow_lit w #[.int .u8 x] 1 hB (by unfold maxLen; decide) rfl
/-- The words behind the op's byte: what Bytes makes of a and b. -/
theorem may_arg {op x a b : Int} (h : mayB op x a b = true) : (0 ≤ a ∧ a ≤ 65535) ∧ (0 ≤ b ∧ b ≤ 65535) := by
  unfold mayB at h
  simp only [Bool.and_eq_true] at h
  have f : ∀ n t, smallB n t = true → 0 ≤ n ∧ n ≤ 65535 := fun n t h => by
    rcases (show (n < 0 ∨ 65535 < n) ∨ (0 ≤ n ∧ n ≤ 65535) by omega) with q | q
    · rw [small_out q] at h; cases h
    · exact q
  exact ⟨f _ _ h.1.2, f _ _ h.2⟩
/-- A row of bytes never lies in a block of ints. -/
theorem ownB_ne {w : World} {B g : Nat} {v : Value} {xs : List Int} {cs : Array Value} (h : OwnB w B v xs) (hg : w.heap[g]? = some (.cells cs 3 (0, 0))) : some g ≠ v.ownBlock := by
  rcases h.2 with ⟨rfl, _⟩ | ⟨g', cap, cur, rfl, _, hh, _⟩
  · intro e; cases e
  · intro e
    have e2 : g = g' := by cases e; rfl
    subst e2
    rw [hg] at hh; cases hh
theorem lt_of_block {w : World} {g : Nat} {o : Obj} (h : w.heap[g]? = some o) : g < w.heap.size := by
  rcases Nat.lt_or_ge g w.heap.size with q | q
  · exact q
  · rw [Array.getElem?_eq_none q] at h; cases h
theorem arg2_bd {a b : Int} (h : (0 ≤ a ∧ a ≤ 65535) ∧ (0 ≤ b ∧ b ≤ 65535)) (j : Nat) : 0 ≤ arg2 a b j ∧ arg2 a b j ≤ 65535 := by
  unfold arg2; split
  · exact h.1
  · exact h.2
theorem block_cell {w : World} {g : Nat} {cs : Array Value} {T : TypeId} (h : w.heap[g]? = some (.cells cs T (0, 0))) (j : Nat) : w.cell? ⟨g, j, none⟩ = cs[j]? := cell_of_row w g j cs T (0, 0) h
theorem flag_kind (op : Int) : (hasB op 120 = shX op) ∧ (hasB op 97 = decide (0 < shN op)) ∧ (hasB op 98 = decide (1 < shN op)) := by
  obtain ⟨e1, e2, e3⟩ := has_xs op
  rw [e1, e2, e3]
  unfold shX shN
  have h := kind_le op
  generalize kindOf op = n at h
  match n, h with
  | 0, _ => exact ⟨rfl, rfl, rfl⟩
  | 1, _ => exact ⟨rfl, rfl, rfl⟩
  | 2, _ => exact ⟨rfl, rfl, rfl⟩
  | 3, _ => exact ⟨rfl, rfl, rfl⟩
  | 4, _ => exact ⟨rfl, rfl, rfl⟩
/-- The bytes, by the document's own flags. -/
def bytesF (q0 q1 q2 : Bool) (op x a b : Int) : List Int := [op % 256] ++ (if q0 = true then putL 8 x else []) ++ (if q1 = true then putL 2 a else []) ++ (if q2 = true then putL 2 b else [])
theorem bytesF_eq (op x a b : Int) : bytesI op x a b = bytesF (hasB op 120) (hasB op 97) (hasB op 98) op x a b := by
  obtain ⟨e1, e2, e3⟩ := flag_kind op
  unfold bytesI bytesF
  rw [e1, e2, e3]
  simp only [decide_eq_true_iff]
end Go.Proofs.Ytdmidnmciaediaa
