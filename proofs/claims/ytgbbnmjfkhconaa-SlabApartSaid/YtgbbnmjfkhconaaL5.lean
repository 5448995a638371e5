/- The plain mathematics of layer 5 (class): sizes, slots, rooms, classes, pages, over Int; no program in sight. No conditions. -/
import Derived.WalkKit
namespace Go.Proofs.Ytgbbnmjfkhconaa
def sizeI (c : Int) : Int := if c = 0 then 16 else if c = 1 then 32 else if c = 2 then 64 else if c = 3 then 128 else 0
def slotsI (c : Int) : Int := if c = 0 then 16 else if c = 1 then 8 else if c = 2 then 4 else if c = 3 then 2 else 0
def roomI (c : Int) : Int := if c = 0 then 8 else if c = 1 then 24 else if c = 2 then 56 else if c = 3 then 120 else 0
def mayB (c : Int) : Bool := decide (0 ≤ c) && decide (c < 4)
/-- The least class that has room; -1: none. -/
def ofI (n : Int) : Int := if n < 1 then -1 else if n ≤ 8 then 0 else if n ≤ 24 then 1 else if n ≤ 56 then 2 else if n ≤ 120 then 3 else -1
def okI (n : Int) : Bool := decide (1 ≤ n) && decide (n ≤ 120)
def ofcI (n : Int) : Int := if okI n = true then ofI n else 0
def greatI (n : Int) : Bool := decide (121 ≤ n) && decide (n ≤ 4096)
def pagesI (n : Int) : Int := if greatI n = true then (n + 263) / 256 else 0
def baseI (p c k : Int) : Int := if 0 ≤ p ∧ p < 256 ∧ 0 ≤ k ∧ k < slotsI c then 256 * p + sizeI c * k else -1
def inI (a c : Int) : Bool := mayB c && (decide (0 ≤ a) && decide (a < 65536))
def slotpI (a c : Int) : Int := if inI a c = true then a / 256 else -1
def slotkI (a c : Int) : Int := if inI a c = true then a % 256 / sizeI c else -1
theorem class_cases (c : Int) : c = 0 ∨ c = 1 ∨ c = 2 ∨ c = 3 ∨ (mayB c = false ∧ (c < 0 ∨ 4 ≤ c) ∧ sizeI c = 0 ∧ slotsI c = 0 ∧ roomI c = 0) := by
  by_cases h : c = 0 ∨ c = 1 ∨ c = 2 ∨ c = 3
  · omega
  · refine Or.inr (Or.inr (Or.inr (Or.inr ⟨?_, by omega, ?_, ?_, ?_⟩)))
    · unfold mayB; by_cases h' : 0 ≤ c
      · rw [decide_eq_false (show ¬ c < 4 by omega), Bool.and_false]
      · rw [decide_eq_false h', Bool.false_and]
    · unfold sizeI; rw [if_neg (by omega), if_neg (by omega), if_neg (by omega), if_neg (by omega)]
    · unfold slotsI; rw [if_neg (by omega), if_neg (by omega), if_neg (by omega), if_neg (by omega)]
    · unfold roomI; rw [if_neg (by omega), if_neg (by omega), if_neg (by omega), if_neg (by omega)]
theorem sizeI_bd (c : Int) : 0 ≤ sizeI c ∧ sizeI c ≤ 128 := by
  rcases class_cases c with rfl | rfl | rfl | rfl | ⟨_, _, h, _, _⟩
  · decide
  · decide
  · decide
  · decide
  · omega
theorem slotsI_bd (c : Int) : 0 ≤ slotsI c ∧ slotsI c ≤ 16 := by
  rcases class_cases c with rfl | rfl | rfl | rfl | ⟨_, _, _, h, _⟩
  · decide
  · decide
  · decide
  · decide
  · omega
theorem slots_size (c : Int) (h : mayB c = true) : slotsI c * sizeI c = 256 ∧ 16 ≤ sizeI c ∧ roomI c = sizeI c - 8 := by
  rcases class_cases c with rfl | rfl | rfl | rfl | ⟨h', _⟩
  · decide
  · decide
  · decide
  · decide
  · rw [h] at h'; cases h'
end Go.Proofs.Ytgbbnmjfkhconaa
