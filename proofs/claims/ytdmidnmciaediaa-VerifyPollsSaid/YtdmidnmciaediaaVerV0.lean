/- Layer 26: what the laws of checked programs share. Conditions: those stated. -/
import Derived.Test.YtdmidnmciaediaaVerS
namespace Go.Proofs.Ytdmidnmciaediaa
open Go.RowKit
set_option linter.unusedVariables false
set_option linter.unusedSimpArgs false
attribute [local go_sem] over_cell over_frozen
theorem rsame_self2 (u v : Value) (xs : List Int) (w : World) (h : ReadI w u xs) (h' : ReadI w v xs) (hl : xs.length ≤ 100) : Calls Try.prog 29 #[u, v] w fun e w' => e = .returned (.bool true) ∧ Below w.heap.size w w' :=
  (rsame_any u v xs xs w h h' (by omega) (by omega)).mono (fun e w' ⟨h1, h2⟩ => ⟨by rw [h1, decide_eq_true rfl], h2⟩)
def RetU (X : World → List (Nat × Nat) → List (List (Option (List Int))) → Prop) (w : World) (R : Sum (List (List (Option (List Int)))) (Int × Int × Int)) (e : Ending) (w' : World) : Prop :=
  ∃ a c L, e = .returned (.tuple #[.slice a L.length c, .agg #[.int .i64 (wrOf R).1, .int .i64 (wrOf R).2.1, .int .i64 (wrOf R).2.2]]) ∧ ReadR slE w' (.slice a L.length c) L ∧ X w' L (msOf R) ∧ Below w.heap.size w w'
theorem retChk_u {w w' : World} {e : Ending} {R : Sum (List (List (Option (List Int)))) (Int × Int × Int)} (h : RetChk w R e w') : RetU AllR w R e w' := by
  obtain ⟨h1, h2⟩ := h
  cases R with
  | inl Ms => obtain ⟨a, c, L, e, q1, q2⟩ := h1; exact ⟨a, c, L, e, q1, q2, h2⟩
  | inr x => exact ⟨none, 0, [], h1, readR_nil _, ⟨rfl, fun k hk => absurd hk (Nat.not_lt_zero _)⟩, h2⟩
theorem sl_at {w : World} {a : Option Addr} {c : Nat} {L : List (Nat × Nat)} (h : ReadR slE w (.slice a L.length c) L) {j : Nat} (hj : j < L.length) : ∃ b o, a = some ⟨b, o, none⟩ ∧ b < w.heap.size ∧ L.length ≤ c ∧ c ≤ maxLen ∧ w.cell? ⟨b, o + j, none⟩ = some (.slice (some ⟨L[j].1, 0, none⟩) L[j].2 L[j].2) := by
  obtain ⟨b, o, cap, e, h1, h2, h3, h4⟩ := readR_pos h (by omega)
  injection e with e1 _ e3
  have z := h4 j hj 0 (by decide)
  have e2 : o + (j * slE.size + 0) = o + j := by show o + (j * 1 + 0) = o + j; omega
  rw [e2] at z
  exact ⟨b, o, e1, h3, by rw [e3]; exact h1, by rw [e3]; exact h2, z⟩
theorem store3 {w W : World} {x y z : Value} {T : TypeId} {c0 : Array Value} (hw : c0.size = 3) (h : W = (((w.alloc (.cells c0 T)).setCell ⟨w.heap.size, 0, none⟩ x).setCell ⟨w.heap.size, 1, none⟩ y).setCell ⟨w.heap.size, 2, none⟩ z) : Blk W w.heap.size [x, y, z] ∧ Below w.heap.size w W := by
  subst h
  have hb := blk_new w c0 T
  obtain ⟨a0, a1, a2, e⟩ : ∃ a0 a1 a2, c0.toList = [a0, a1, a2] := by
    have hl : c0.toList.length = 3 := by simpa using hw
    match c0.toList, hl with
    | [a0, a1, a2], _ => exact ⟨a0, a1, a2, rfl⟩
  rw [e] at hb
  exact ⟨blk_set (blk_set (blk_set hb 0 _) 1 _) 2 _, b_grown (b_alloc (Below.refl _ _) _) (gb_set (gb_set (gb_set (gb_refl _ (some w.heap.size)) _ _ _) _ _ _) _ _ _) (Nat.le_refl _)⟩
theorem store2 {w W : World} {x y : Value} {T : TypeId} {c0 : Array Value} (hw : c0.size = 2) (h : W = ((w.alloc (.cells c0 T)).setCell ⟨w.heap.size, 0, none⟩ x).setCell ⟨w.heap.size, 1, none⟩ y) : Blk W w.heap.size [x, y] ∧ Below w.heap.size w W := by
  subst h
  have hb := blk_new w c0 T
  obtain ⟨a0, a1, e⟩ : ∃ a0 a1, c0.toList = [a0, a1] := by
    have hl : c0.toList.length = 2 := by simpa using hw
    match c0.toList, hl with
    | [a0, a1], _ => exact ⟨a0, a1, rfl⟩
  rw [e] at hb
  exact ⟨blk_set (blk_set hb 0 _) 1 _, b_grown (b_alloc (Below.refl _ _) _) (gb_set (gb_set (gb_refl _ (some w.heap.size)) _ _ _) _ _ _) (Nat.le_refl _)⟩
theorem chkFs_code {P : PrM} : ∀ (fs : List FnM) (j : Nat) {x : Int × Int × Int}, chkFs P fs j = .inr x → x.2.2 ≠ 0
  | [], j, x, h => by cases h
  | f :: fs, j, x, h => by
    rw [chkFs] at h
    split at h
    · rename_i y hy
      injection h with h; subst h
      exact runV_code _ _ hy
    · split at h
      · cases h
      · rename_i y hy
        injection h with h; subst h
        exact chkFs_code fs (j + 1) hy
theorem checkM_code {P : PrM} {x : Int × Int × Int} (h : checkM P = .inr x) : x.2.2 ≠ 0 := by
  unfold checkM at h
  split at h
  · split at h
    · injection h with h; subst h; show (7 : Int) ≠ 0; decide
    · exact chkFs_code _ _ h
  · injection h with h; subst h; show (5 : Int) ≠ 0; decide
end Go.Proofs.Ytdmidnmciaediaa
