/- Layer 26: what the laws of checked programs share. Conditions: those stated. -/
import Derived.Test.YtdmidnmciaediaaZVerS
namespace Go.Proofs.Ytdmidnmciaediaa
open Go.RowKit
set_option linter.unusedVariables false
set_option linter.unusedSimpArgs false
attribute [local go_sem] over_cell over_frozen
theorem store3 {w W : World} {x y z : Value} {T : TypeId} {c0 : Array Value} (hw : c0.size = 3) (h : W = (((w.alloc (.cells c0 T)).setCell ⟨w.heap.size, 0, none⟩ x).setCell ⟨w.heap.size, 1, none⟩ y).setCell ⟨w.heap.size, 2, none⟩ z) : Blk W w.heap.size [x, y, z] ∧ Below w.heap.size w W := by
  subst h
  have hb := blk_new w c0 T
  obtain ⟨a0, a1, a2, e⟩ : ∃ a0 a1 a2, c0.toList = [a0, a1, a2] := by
    have hl : c0.toList.length = 3 := by simpa using hw
    match c0.toList, hl with
    | [a0, a1, a2], _ => exact ⟨a0, a1, a2, rfl⟩
  rw [e] at hb
  exact ⟨blk_set (blk_set (blk_set hb 0 _) 1 _) 2 _, b_grown (b_alloc (Below.refl _ _) _) (gb_set (gb_set (gb_set (gb_refl _ (some w.heap.size)) _ _ _) _ _ _) _ _ _) (Nat.le_refl _)⟩
theorem store2 {w W : World} {x y : Value} {T : TypeId} {c0 : Array Value} (hw : c0.size = 2) (h : W = ((w.alloc (.cells c0 T)).setCell ⟨w.heap.size, 0, none⟩ x).setCell ⟨w.heap.size, 1, none⟩ y) : Blk W w.heap.size [x, y] ∧ Below w.heap.size w W := by
  subst h
  have hb := blk_new w c0 T
  obtain ⟨a0, a1, e⟩ : ∃ a0 a1, c0.toList = [a0, a1] := by
    have hl : c0.toList.length = 2 := by simpa using hw
    match c0.toList, hl with
    | [a0, a1], _ => exact ⟨a0, a1, rfl⟩
  rw [e] at hb
  exact ⟨blk_set (blk_set hb 0 _) 1 _, b_grown (b_alloc (Below.refl _ _) _) (gb_set (gb_set (gb_refl _ (some w.heap.size)) _ _ _) _ _ _) (Nat.le_refl _)⟩
theorem chkFs_code {P : PrM} : ∀ (fs : List FnM) (j : Nat) {x : Int × Int × Int}, chkFs P fs j = .inr x → x.2.2 ≠ 0
  | [], j, x, h => by cases h
  | f :: fs, j, x, h => by
    rw [chkFs] at h
    split at h
    · rename_i y hy
      injection h with h; subst h
      exact runV_code _ _ hy
    · split at h
      · cases h
      · rename_i y hy
        injection h with h; subst h
        exact chkFs_code fs (j + 1) hy
theorem checkM_code {P : PrM} {x : Int × Int × Int} (h : checkM P = .inr x) : x.2.2 ≠ 0 := by
  unfold checkM at h
  split at h
  · split at h
    · injection h with h; subst h; show (7 : Int) ≠ 0; decide
    · exact chkFs_code _ _ h
  · injection h with h; subst h; show (5 : Int) ≠ 0; decide
end Go.Proofs.Ytdmidnmciaediaa
