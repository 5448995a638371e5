/- Layer 26: the document's going through a function: the beginning in memory. Conditions: those stated. -/
import Derived.Test.YtdmidnmciaediaaZVerO
namespace Go.Proofs.Ytdmidnmciaediaa
open Go.RowKit
set_option linter.unusedVariables false
set_option linter.unusedSimpArgs false
attribute [local go_sem] over_cell over_frozen
theorem rowFctD : IsRow Try.prog 89 91 2 32 (.agg #[.bool false, .slice none 0 0]) := ⟨Try.underlying89, by kernel_rfl, by rfl⟩
theorem doc_first {w : World} {g o n : Nat} (h : DocAt w g o n (List.replicate n (false, ⟨none, 0, 0⟩)) (List.replicate n false) (List.replicate n none)) (hn : 0 < n) :
    DocAt (w.setCell ⟨g, 0, none⟩ (.bool true)) g o n ((List.replicate n (false, ⟨none, 0, 0⟩)).set 0 (true, ⟨none, 0, 0⟩)) (List.replicate n false) (start n).F := by
  have g1 : w.grownBy (w.setCell ⟨g, 0, none⟩ (.bool true)) (some g) := gb_set (gb_refl _ _) _ _ _
  have hb := blk_set h.fr 0 (.bool true)
  have e : (factE.row (List.replicate n (false, (⟨none, 0, 0⟩ : Sl)))).set 0 (.bool true) = factE.row ((List.replicate n (false, (⟨none, 0, 0⟩ : Sl))).set 0 (true, ⟨none, 0, 0⟩)) := by
    obtain ⟨m, rfl⟩ : ∃ m, n = m + 1 := ⟨n - 1, by omega⟩
    rw [List.replicate_succ]
    rfl
  rw [e] at hb
  have lg : 0 < (factE.row (List.replicate n (false, (⟨none, 0, 0⟩ : Sl)))).length := by rw [row_length, List.length_replicate]; show 0 < n * 2; omega
  have ng1 : NoInt (w.setCell ⟨g, 0, none⟩ (.bool true)) g := noInt_set h.ng h.fr lg (fun i e => by cases e)
  refine ⟨hb, blk_grown h.ob g1 (fun e => h.e3 (by injection e with e; exact e.symm)), ng1, noInt_grown h.no h.ob.1 (fun e => h.e3 e.symm) g1, h.e3, by simp, h.lo, ?_, by rw [tyB_set]; exact h.ty, fun j hj => ?_⟩
  rotate_left
  · rw [List.getElem_set]
    split
    · exact Or.inl rfl
    · simp only [List.getElem_replicate]; exact Or.inl rfl
  rw [start_eq hn]
  refine ⟨by simp, fun j hj => ?_⟩
  have hj' : j < n := by simpa using hj
  rw [List.getElem_set]
  show _ ∧ ReadI _ _ ((((List.replicate n (none : Option (List Int))).set 0 (some [])).getD j none).getD [])
  rw [getD_set _ _ _ _ _ (by simpa using hn), getD_rep]
  by_cases e : 0 = j
  · subst e
    rw [if_pos rfl, if_pos rfl]
    exact ⟨rfl, readI_nil _⟩
  · simp only [if_neg e, List.getElem_replicate]
    exact ⟨rfl, readI_nil _⟩
theorem doc_start (W : World) (n : Nat) : DocAt ((W.alloc (.cells (mkF n) 91)).alloc (.cells (mkO n) 4)) W.heap.size (W.heap.size + 1) n (List.replicate n (false, ⟨none, 0, 0⟩)) (List.replicate n false) (List.replicate n none) := by
  obtain ⟨q1, q2, q3⟩ := boxes2 W (mkF n) (mkO n) 91 4
  have n2 := noInt_new (W.alloc (.cells (mkF n) 91)) (mkO n) 4 (mkO_no n)
  rw [World.size_alloc] at n2
  rw [mkF_row] at q1
  rw [mkO_row] at q2
  refine ⟨q1, q2, noInt_below (noInt_new W (mkF n) 91 (mkF_no n)) (by simp) (b_alloc (Below.refl _ _) _), n2, by omega, by simp, by simp, ⟨by simp, fun k hk => ?_⟩, tyB_alloc (tyB_new _ _ _) _, fun k hk => by simp only [List.getElem_replicate]; exact Or.inl rfl⟩
  simp only [List.getElem_replicate]
  rw [getD_rep]
  exact ⟨rfl, readI_nil _⟩
/-- What stands at a round's beginning. -/
structure DRnd (w0 w : World) (g o n : Nat) (P : PrM) (f : FnM) (s : StM) (D : List Bool) (R : Sum (List (Option (List Int))) (Int × Int)) : Prop where
  be : Below w0.heap.size w0 w
  ck : ∃ F, DocAt w g o n F D s.F
  sm : ∀ k x, s.F.getD k none = some x → x.length ≤ 16
  r : ∃ fuel, R = runV P f fuel s ∧ mu s ≤ fuel
  rel : OpenRel s D
  lo : s.O.length = n
end Go.Proofs.Ytdmidnmciaediaa
