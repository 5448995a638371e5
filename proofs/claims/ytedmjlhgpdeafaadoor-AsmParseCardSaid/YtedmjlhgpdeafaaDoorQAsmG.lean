/- Layer 34: the document's Instr is instrL. Conditions: the words read as strings. -/
import Derived.Test.YtedmjlhgpdeafaaDoorQAsmE
import Derived.Test.YtedmjlhgpdeafaaDoorQAsmT
namespace Go.Proofs.YtedmjlhgpdeafaaDoor
open Go.RowKit
set_option linter.unusedVariables false
set_option linter.unusedSimpArgs false
theorem kindm : kindOf (-1) = 4 := by decide
theorem one_bad {a : List UInt8} {r : List (List UInt8)} {w : World} {e : Ending} {w' : World} {o x p q : Int} (h : instrL a r = none) (hr : RetOne o x p q false w e w') : OneEnd a r e ∧ Below w.heap.size w w' :=
  ⟨⟨o, x, p, q, by rw [hr.1, h]; rfl, fun i hi => by rw [h] at hi; cases hi⟩, hr.2⟩
theorem one_good {a : List UInt8} {r : List (List UInt8)} {w : World} {e : Ending} {w' : World} {o x p q : Int} (h : instrL a r = some ⟨o, x, p, q⟩) (hr : RetOne o x p q true w e w') : OneEnd a r e ∧ Below w.heap.size w w' :=
  ⟨⟨o, x, p, q, by rw [hr.1, h]; rfl, fun i hi => by rw [h] at hi; injection hi with hi; exact hi.symm⟩, hr.2⟩
theorem rinstr_any {wv : Value} {a : List UInt8} {r : List (List UInt8)} (w : World) (hw : ReadR strE w wv (a :: r)) (hall : ∀ x ∈ r, x.length ≤ 1000000) : Calls Tryd.prog 69 #[wv] w fun e w' => OneEnd a r e ∧ Below w.heap.size w w' := by
  obtain ⟨b, o, n, cap, rfl, hm, hmc, hcm, hb, c0, cr⟩ := awords_at hw
  have hcm' : (cap : Int) ≤ 9223372036854775807 := by omega
  cases ho : opL a with
  | none =>
    have hop : lastOp a 37 = -1 := lastOp_none ho 37 (Nat.le_refl _)
    have hi : instrL a r = none := by unfold instrL; rw [ho]
    exact (rin_no ⟨by omega, hmc, hcm', hb, c0, hop, kindm⟩).mono fun e w' hr => one_bad hi hr
  | some k =>
    have hk37 := (opL_bd ho).1
    have hop : lastOp a 37 = (k : Int) := by rw [lastOp_some ho 37 (Nat.le_refl _), if_pos hk37]
    have hk4 := kind37 k hk37
    have hle := kind_le (k : Int)
    rcases (by omega : kindOf (k : Int) = 0 ∨ kindOf (k : Int) = 1 ∨ kindOf (k : Int) = 2 ∨ kindOf (k : Int) = 3) with hκ | hκ | hκ | hκ
    · by_cases hn : n = 1
      · match r, hm with
        | [], _ =>
          have hi : instrL a [] = some ⟨k, 0, 0, 0⟩ := by unfold instrL; simp only [ho, hκ]
          exact (rin_0 (kk := k) (h := ⟨by omega, hmc, hcm', hb, c0, hop, hκ⟩) (by rw [hn]; rfl)).mono fun e w' hr => one_good hi hr
        | y :: r, hm => simp at hm; omega
      · have hi : instrL a r = none := by
          unfold instrL
          cases r with
          | nil => simp at hm; omega
          | cons y r => simp only [ho, hκ]
        exact (rin_len0 (kk := k) (h := ⟨by omega, hmc, hcm', hb, c0, hop, hκ⟩) (by simp; omega)).mono fun e w' hr => one_bad hi hr
    · by_cases hn : n = 2
      · match r, hm, cr, hall with
        | [y], _, cr, hall =>
          have cy : w.cell? ⟨b, o + 1, none⟩ = some (.string ⟨y.toArray⟩) := cr 0 (by simp)
          have hyl := hall y (by simp)
          cases hb2 : bitsL y with
          | none =>
            have hi : instrL a [y] = none := by unfold instrL; simp only [ho, hκ, hb2]; rfl
            exact (rin_1n (kk := k) (h := ⟨by omega, hmc, hcm', hb, c0, hop, hκ⟩) hyl cy (by rw [hn]; rfl) hb2).mono fun e w' ⟨_, _, _, _, hr⟩ => one_bad hi hr
          | some v =>
            have hi : instrL a [y] = some ⟨k, (v : Int), 0, 0⟩ := by unfold instrL; simp only [ho, hκ, hb2]; rfl
            exact (rin_1 (kk := k) (v := v) (h := ⟨by omega, hmc, hcm', hb, c0, hop, hκ⟩) hyl cy (by rw [hn]; rfl) hb2).mono fun e w' hr => one_good hi hr
        | [], hm, _, _ => simp at hm; omega
        | y :: z :: r, hm, _, _ => simp at hm; omega
      · have hi : instrL a r = none := by
          unfold instrL
          match r, hm with
          | [], _ => simp only [ho, hκ]
          | [y], hm => simp at hm; omega
          | y :: z :: r, _ => simp only [ho, hκ]
        exact (rin_len1 (kk := k) (h := ⟨by omega, hmc, hcm', hb, c0, hop, hκ⟩) (by simp; omega)).mono fun e w' hr => one_bad hi hr
    · by_cases hn : n = 2
      · match r, hm, cr, hall with
        | [y], _, cr, hall =>
          have cy : w.cell? ⟨b, o + 1, none⟩ = some (.string ⟨y.toArray⟩) := cr 0 (by simp)
          have hyl := hall y (by simp)
          cases hb2 : valL y with
          | none =>
            have hi : instrL a [y] = none := by unfold instrL; simp only [ho, hκ, hb2]; rfl
            exact (rin_2n (kk := k) (h := ⟨by omega, hmc, hcm', hb, c0, hop, hκ⟩) hyl cy (by rw [hn]; rfl) hb2).mono fun e w' ⟨_, _, _, _, hr⟩ => one_bad hi hr
          | some v =>
            have hi : instrL a [y] = some ⟨k, 0, (v : Int), 0⟩ := by unfold instrL; simp only [ho, hκ, hb2]; rfl
            exact (rin_2 (kk := k) (v := v) (h := ⟨by omega, hmc, hcm', hb, c0, hop, hκ⟩) hyl cy (by rw [hn]; rfl) hb2).mono fun e w' hr => one_good hi hr
        | [], hm, _, _ => simp at hm; omega
        | y :: z :: r, hm, _, _ => simp at hm; omega
      · have hi : instrL a r = none := by
          unfold instrL
          match r, hm with
          | [], _ => simp only [ho, hκ]
          | [y], hm => simp at hm; omega
          | y :: z :: r, _ => simp only [ho, hκ]
        exact (rin_len2 (kk := k) (h := ⟨by omega, hmc, hcm', hb, c0, hop, hκ⟩) (by simp; omega)).mono fun e w' hr => one_bad hi hr
    · by_cases hn : n = 3
      · match r, hm, cr, hall with
        | [y, z], _, cr, hall =>
          have cy : w.cell? ⟨b, o + 1, none⟩ = some (.string ⟨y.toArray⟩) := cr 0 (by simp)
          have cz : w.cell? ⟨b, o + 2, none⟩ = some (.string ⟨z.toArray⟩) := cr 1 (by simp)
          have hyl := hall y (by simp)
          have hzl := hall z (by simp)
          cases hb2 : valL y with
          | none =>
            have hi : instrL a [y, z] = none := by unfold instrL; simp only [ho, hκ, hb2]; rfl
            exact (rin_3m (kk := k) (h := ⟨by omega, hmc, hcm', hb, c0, hop, hκ⟩) hyl hzl cy cz (by rw [hn]; rfl) hb2).mono fun e w' ⟨_, _, _, _, hr⟩ => one_bad hi hr
          | some v =>
            cases hb3 : valL z with
            | none =>
              have hi : instrL a [y, z] = none := by unfold instrL; simp only [ho, hκ, hb2, hb3]; rfl
              exact (rin_3n (kk := k) (v := v) (h := ⟨by omega, hmc, hcm', hb, c0, hop, hκ⟩) hyl hzl cy cz (by rw [hn]; rfl) hb2 hb3).mono fun e w' ⟨_, _, _, _, hr⟩ => one_bad hi hr
            | some u =>
              have hi : instrL a [y, z] = some ⟨k, 0, (v : Int), (u : Int)⟩ := by unfold instrL; simp only [ho, hκ, hb2, hb3]; rfl
              exact (rin_3 (kk := k) (v := v) (u := u) (h := ⟨by omega, hmc, hcm', hb, c0, hop, hκ⟩) hyl hzl cy cz (by rw [hn]; rfl) hb2 hb3).mono fun e w' hr => one_good hi hr
        | [], hm, _, _ => simp at hm; omega
        | [y], hm, _, _ => simp at hm; omega
        | y :: z :: x :: r, hm, _, _ => simp at hm; omega
      · have hi : instrL a r = none := by
          unfold instrL
          match r, hm with
          | [], _ => simp only [ho, hκ]
          | [y], _ => simp only [ho, hκ]
          | [y, z], hm => simp at hm; omega
          | y :: z :: x :: r, _ => simp only [ho, hκ]
        exact (rin_len3 (kk := k) (h := ⟨by omega, hmc, hcm', hb, c0, hop, hκ⟩) (by simp; omega)).mono fun e w' hr => one_bad hi hr
end Go.Proofs.YtedmjlhgpdeafaaDoor
