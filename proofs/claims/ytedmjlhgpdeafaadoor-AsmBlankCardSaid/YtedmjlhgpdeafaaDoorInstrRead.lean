/- Layer 24: an instruction read: ours and the document's. Conditions: the slice reads as bytes, of fewer than 2^38. -/
import Derived.Test.YtedmjlhgpdeafaaDoorInstrWake
namespace Go.Proofs.YtedmjlhgpdeafaaDoor
open Go.RowKit
set_option linter.unusedVariables false
set_option linter.unusedSimpArgs false
attribute [local go_sem] over_cell over_frozen
/-- What 's[i:j]' reads as. -/
theorem readB_cut {w : World} {b o n cap : Nat} {xs : List Int} (h : ReadB w (.slice (some ⟨b, o, none⟩) n cap) xs) (i j : Nat) (hij : i < j) (hj : j ≤ xs.length) : ReadB w (.slice (some ⟨b, o + i, none⟩) (j - i) (cap - i)) ((xs.drop i).take (j - i)) := by
  obtain ⟨b', o', cap', hv, h1, h2, h3, h4⟩ := readB_pos h (by omega)
  cases hv
  have e : ((xs.drop i).take (j - i)).length = j - i := by simp; omega
  have := readB_mk (w := w) (b := b) (o := o + i) (cap := cap - i) (xs := (xs.drop i).take (j - i)) (by omega) (by omega) h3 (fun k hk => by
    rw [e] at hk
    rw [Nat.add_assoc, h4 (i + k) (by omega)]
    simp only [List.getD_eq_getElem?_getD, List.getElem?_take_of_lt hk, List.getElem?_drop])
  rw [e] at this
  exact this
def opR (xs : List Int) : Int := xs.getD 0 0
def szR (op : Int) : Nat := 1 + 2 * (shN op).toNat + (if shX op = true then 8 else 0)
def okR (xs : List Int) : Bool := decide (0 < xs.length) && shOk (opR xs) && decide (szR (opR xs) ≤ xs.length)
def cutL (xs : List Int) (i j : Nat) : List Int := (xs.drop i).take (j - i)
def xR (xs : List Int) : Int := if shX (opR xs) = true then getL ((cutL xs 1 9).take 8) else 0
def aR (xs : List Int) : Int := if 0 < shN (opR xs) then getL ((cutL xs 1 3).take 8) else 0
def bR (xs : List Int) : Int := if 1 < shN (opR xs) then getL ((cutL xs 3 5).take 8) else 0
def instV (op x a b : Int) : Value := .agg #[.int .i64 op, .int .u64 x, .int .i64 a, .int .i64 b]
theorem kinds (op : Int) : (shOk op = false ∧ shN op = 0 ∧ shX op = false) ∨ (shOk op = true ∧ shN op = 0 ∧ shX op = false) ∨ (shOk op = true ∧ shN op = 0 ∧ shX op = true) ∨ (shOk op = true ∧ shN op = 1 ∧ shX op = false) ∨ (shOk op = true ∧ shN op = 2 ∧ shX op = false) := by
  have h := kind_le op
  unfold shOk shN shX
  generalize kindOf op = n at h
  match n, h with
  | 0, _ => exact Or.inr (Or.inl ⟨rfl, rfl, rfl⟩)
  | 1, _ => exact Or.inr (Or.inr (Or.inl ⟨rfl, rfl, rfl⟩))
  | 2, _ => exact Or.inr (Or.inr (Or.inr (Or.inl ⟨rfl, rfl, rfl⟩)))
  | 3, _ => exact Or.inr (Or.inr (Or.inr (Or.inr ⟨rfl, rfl, rfl⟩)))
  | 4, _ => exact Or.inl ⟨rfl, rfl, rfl⟩
theorem getL_bd16 {xs : List Int} (hb : IsBytes xs) {i : Nat} {z : Int} (h : z = getL ((cutL xs i (i + 2)).take 8)) : 0 ≤ z ∧ z ≤ 65535 := by
  obtain ⟨g1, g2⟩ := getL_lt _ (isBytes_take (isBytes_take (isBytes_drop hb i) (i + 2 - i)) 8)
  have hl : ((cutL xs i (i + 2)).take 8).length ≤ 2 := by unfold cutL; simp; omega
  have h2 : (256 : Int) ^ ((cutL xs i (i + 2)).take 8).length ≤ 65536 := by
    have e := Int.ofNat_le.2 (Nat.pow_le_pow_right (show 0 < 256 by decide) hl)
    rw [Int.natCast_pow, Int.natCast_pow] at e
    exact e
  rw [h]
  exact ⟨g1, by unfold cutL at h2 ⊢; omega⟩
end Go.Proofs.YtedmjlhgpdeafaaDoor
