/- Layer 4's plain mathematics: free places, how many, the longest run. No conditions beside those stated. -/
import Derived.Test.YtfbdnjmljdfjjaaPage1
namespace Go.Proofs.Ytfbdnjmljdfjjaa
open Go.RowKit
set_option linter.unusedVariables false
set_option linter.unusedSimpArgs false
def frB (L : List Row4) (i : Nat) : Bool := isZ (L.getD i zr)
/-- 'n' free pages from 'k' on, within bounds. -/
def Fits (L : List Row4) (lo hi : Int) (n k : Nat) : Prop := k + n ≤ L.length ∧ lo ≤ (k : Int) ∧ (k : Int) + n ≤ hi ∧ ∀ i, k ≤ i → i < k + n → frB L i = true
/-- The first place: -1: there is none. -/
def IsPlace (L : List Row4) (lo hi : Int) (n : Nat) (r : Int) : Prop := (r = -1 ∧ ∀ j, ¬ Fits L lo hi n j) ∨ ∃ k : Nat, r = k ∧ Fits L lo hi n k ∧ ∀ j, j < k → ¬ Fits L lo hi n j
open Classical in
noncomputable def placeI (L : List Row4) (lo hi : Int) (n : Nat) : Int :=
  if h : ∃ k : Nat, Fits L lo hi n k then (((List.range (L.length + 1)).find? (fun k => decide (Fits L lo hi n k))).getD 0 : Nat) else -1
theorem fits_le {L : List Row4} {lo hi : Int} {n k : Nat} (h : Fits L lo hi n k) : k < L.length + 1 := by have := h.1; omega
theorem placeI_is (L : List Row4) (lo hi : Int) (n : Nat) : IsPlace L lo hi n (placeI L lo hi n) := by
  classical
  unfold placeI
  by_cases h : ∃ k : Nat, Fits L lo hi n k
  · rw [dif_pos h]
    obtain ⟨k, hk⟩ := h
    cases hf : (List.range (L.length + 1)).find? (fun k => decide (Fits L lo hi n k)) with
    | none =>
      have := List.find?_eq_none.1 hf k (List.mem_range.2 (fits_le hk))
      simp [hk] at this
    | some j =>
      refine Or.inr ⟨j, rfl, ?_, fun i hi' hf' => ?_⟩
      · have := List.find?_some hf; simpa using this
      · rw [List.find?_range_eq_some] at hf
        have := hf.2.2 i hi'
        simp [hf'] at this
  · rw [dif_neg h]
    exact Or.inl ⟨rfl, fun j hj => h ⟨j, hj⟩⟩
theorem place_eq {L : List Row4} {lo hi : Int} {n : Nat} {r r' : Int} (h : IsPlace L lo hi n r) (h' : IsPlace L lo hi n r') : r = r' := by
  rcases h with ⟨rfl, h⟩ | ⟨k, rfl, h1, h2⟩
  · rcases h' with ⟨rfl, _⟩ | ⟨k', rfl, h1', _⟩
    · rfl
    · exact absurd h1' (h _)
  · rcases h' with ⟨rfl, h'⟩ | ⟨k', rfl, h1', h2'⟩
    · exact absurd h1 (h' _)
    · rcases Nat.lt_trichotomy k k' with q | q | q
      · exact absurd h1 (h2' _ q)
      · rw [q]
      · exact absurd h1' (h2 _ q)
theorem place_bd {L : List Row4} {lo hi : Int} {n : Nat} {r : Int} (hn : 1 ≤ n) (h : IsPlace L lo hi n r) : -1 ≤ r ∧ r < 1 + L.length ∧ (0 ≤ r → r < L.length) := by
  rcases h with ⟨rfl, h⟩ | ⟨k, rfl, h1, h2⟩
  · omega
  · have := h1.1; omega
/-- As the program's bounds are cut. -/
theorem fits_cut {L : List Row4} {lo hi : Int} {n k : Nat} (hn : 1 ≤ n) : Fits L (cutL lo) (cutH L.length lo hi) n k ↔ Fits L lo hi n k := by
  unfold Fits
  constructor
  · rintro ⟨h1, h2, h3, h4⟩
    refine ⟨h1, ?_, ?_, h4⟩
    · unfold cutL at h2; split at h2 <;> omega
    · unfold cutH cutL at *; repeat' split at h3
      all_goals (repeat' split at h2) <;> omega
  · rintro ⟨h1, h2, h3, h4⟩
    refine ⟨h1, ?_, ?_, h4⟩
    · unfold cutL; split <;> omega
    · unfold cutH cutL; repeat' split
      all_goals omega
theorem cut_bd (n : Nat) (lo hi : Int) : 0 ≤ cutL lo ∧ cutL lo ≤ cutH n lo hi ∧ (cutL lo < cutH n lo hi → cutH n lo hi ≤ n) := by
  unfold cutH cutL; repeat' split
  all_goals omega
/-- What the program's search knows: so many free ones stand right ahead, and no place is further ahead. -/
def RunAt (L : List Row4) (lo hi : Int) (n k run : Nat) : Prop := run ≤ k ∧ lo ≤ (k : Int) - run ∧ (∀ i, k - run ≤ i → i < k → frB L i = true) ∧ ∀ j, Fits L lo hi n j → k - run ≤ j
theorem run_start {L : List Row4} {lo hi : Int} {n k : Nat} (h : (k : Int) = lo) : RunAt L lo hi n k 0 :=
  ⟨Nat.zero_le _, by omega, fun i h1 h2 => by omega, fun j hj => by have := hj.2.1; omega⟩
theorem run_free {L : List Row4} {lo hi : Int} {n k run : Nat} (h : RunAt L lo hi n k run) (hf : frB L k = true) : RunAt L lo hi n (k + 1) (run + 1) := by
  obtain ⟨h1, h2, h3, h4⟩ := h
  refine ⟨by omega, by omega, fun i a b => ?_, fun j hj => by have := h4 j hj; omega⟩
  rcases Nat.lt_or_ge i k with q | q
  · exact h3 i (by omega) q
  · have : i = k := by omega
    rw [this]; exact hf
theorem run_full {L : List Row4} {lo hi : Int} {n k run : Nat} (h : RunAt L lo hi n k run) (hr : run < n) (hf : frB L k = false) : RunAt L lo hi n (k + 1) 0 := by
  obtain ⟨h1, h2, h3, h4⟩ := h
  refine ⟨by omega, by omega, fun i a b => by omega, fun j hj => ?_⟩
  have q := h4 j hj
  rcases Nat.lt_or_ge k j with z | z
  · omega
  · have := hj.2.2.2 k z (by omega)
    rw [hf] at this; cases this
theorem run_hit {L : List Row4} {lo hi : Int} {n k run : Nat} (h : RunAt L lo hi n k run) (hr : run = n) (hk : k ≤ L.length) (hh : (k : Int) ≤ hi) : IsPlace L lo hi n ((k : Int) - n) := by
  obtain ⟨h1, h2, h3, h4⟩ := h
  subst hr
  refine Or.inr ⟨k - run, by omega, ⟨by omega, by omega, by omega, fun i a b => h3 i a (by omega)⟩, fun j hj hf => by have := h4 j hf; omega⟩
theorem run_end {L : List Row4} {lo hi : Int} {n k run : Nat} (h : RunAt L lo hi n k run) (hr : run < n) (hk : hi ≤ (k : Int)) : IsPlace L lo hi n (-1) := by
  obtain ⟨h1, h2, h3, h4⟩ := h
  refine Or.inl ⟨rfl, fun j hj => ?_⟩
  have q := h4 j hj
  have := hj.2.2.1
  omega
theorem frB_in {L : List Row4} {k : Nat} (h : k < L.length) : frB L k = isZ L[k] := by unfold frB; rw [List.getD_eq_getElem?_getD, List.getElem?_eq_getElem h]; rfl
theorem getD_in {L : List Row4} {k : Nat} (h : k < L.length) : L.getD k zr = L[k] := by rw [List.getD_eq_getElem?_getD, List.getElem?_eq_getElem h]; rfl
/-- How many of a kind there are among the first 'm'. -/
def cntT (L : List Row4) (lo hi kind : Int) : Nat → Nat
  | 0 => 0
  | m + 1 => cntT L lo hi kind m + if lo ≤ (m : Int) ∧ (m : Int) < hi ∧ (L.getD m zr).k = kind then 1 else 0
theorem cnt_le (L : List Row4) (lo hi kind : Int) : ∀ m, cntT L lo hi kind m ≤ m
  | 0 => Nat.le_refl _
  | m + 1 => by unfold cntT; have := cnt_le L lo hi kind m; split <;> omega
theorem cnt_low (L : List Row4) (lo hi kind : Int) : ∀ m : Nat, (m : Int) ≤ lo → cntT L lo hi kind m = 0
  | 0, _ => rfl
  | m + 1, h => by unfold cntT; rw [cnt_low L lo hi kind m (by omega), if_neg (by omega)]
theorem cnt_high (L : List Row4) (lo hi kind : Int) (a : Nat) (h : hi ≤ (a : Int)) : ∀ m : Nat, a ≤ m → cntT L lo hi kind m = cntT L lo hi kind a
  | 0, h' => by rw [show a = 0 by omega]
  | m + 1, h' => by
    rcases Nat.lt_or_ge m a with q | q
    · rw [show a = m + 1 by omega]
    · show cntT L lo hi kind m + (if lo ≤ (m : Int) ∧ (m : Int) < hi ∧ (L.getD m zr).k = kind then 1 else 0) = _
      rw [if_neg (by omega), cnt_high L lo hi kind a h m q, Nat.add_zero]
theorem cnt_cut (L : List Row4) (lo hi kind : Int) : ∀ m : Nat, m ≤ L.length → cntT L (cutL lo) (cutH L.length lo hi) kind m = cntT L lo hi kind m
  | 0, _ => rfl
  | m + 1, h => by
    unfold cntT
    rw [cnt_cut L lo hi kind m (by omega)]
    have e : (cutL lo ≤ (m : Int) ∧ (m : Int) < cutH L.length lo hi ∧ (L.getD m zr).k = kind) ↔ (lo ≤ (m : Int) ∧ (m : Int) < hi ∧ (L.getD m zr).k = kind) := by
      have e1 : (cutL lo ≤ (m : Int) ∧ (m : Int) < cutH L.length lo hi) ↔ (lo ≤ (m : Int) ∧ (m : Int) < hi) := by
        unfold cutH cutL; repeat' split
        all_goals omega
      constructor
      · rintro ⟨a, b, c⟩; obtain ⟨x, y⟩ := e1.1 ⟨a, b⟩; exact ⟨x, y, c⟩
      · rintro ⟨a, b, c⟩; obtain ⟨x, y⟩ := e1.2 ⟨a, b⟩; exact ⟨x, y, c⟩
    by_cases q : lo ≤ (m : Int) ∧ (m : Int) < hi ∧ (L.getD m zr).k = kind
    · rw [if_pos q, if_pos (e.2 q)]
    · rw [if_neg q, if_neg (fun z => q (e.1 z))]
def countI (L : List Row4) (lo hi kind : Int) : Nat := cntT L lo hi kind L.length
/-- The most free ones behind one another. -/
def IsLong (L : List Row4) (lo hi : Int) (m : Nat) : Prop := (m = 0 ∨ ∃ k, Fits L lo hi m k) ∧ ∀ k, ¬ Fits L lo hi (m + 1) k
theorem fits_less {L : List Row4} {lo hi : Int} {n m k : Nat} (h : Fits L lo hi n k) (hm : m ≤ n) : Fits L lo hi m k :=
  ⟨by have := h.1; omega, h.2.1, by have := h.2.2.1; omega, fun i a b => h.2.2.2 i a (by omega)⟩
theorem long_eq {L : List Row4} {lo hi : Int} {m m' : Nat} (h : IsLong L lo hi m) (h' : IsLong L lo hi m') : m = m' := by
  rcases Nat.lt_trichotomy m m' with q | q | q
  · rcases h'.1 with z | ⟨k, z⟩
    · omega
    · exact absurd (fits_less z q) (h.2 k)
  · exact q
  · rcases h.1 with z | ⟨k, z⟩
    · omega
    · exact absurd (fits_less z q) (h'.2 k)
theorem long_le {L : List Row4} {lo hi : Int} {m : Nat} (h : IsLong L lo hi m) : m ≤ L.length := by
  rcases h.1 with z | ⟨k, z⟩
  · omega
  · have := z.1; omega
theorem long_cut {L : List Row4} {lo hi : Int} {m : Nat} (h : IsLong L (cutL lo) (cutH L.length lo hi) m) : IsLong L lo hi m := by
  refine ⟨?_, fun k hk => h.2 k ((fits_cut (by omega)).2 hk)⟩
  rcases Nat.eq_zero_or_pos m with q | q
  · exact Or.inl q
  · rcases h.1 with z | ⟨k, z⟩
    · exact Or.inl z
    · exact Or.inr ⟨k, (fits_cut q).1 z⟩
/-- What the program's search for the longest knows. -/
def LongAt (L : List Row4) (lo hi : Int) (k run best : Nat) : Prop :=
  run ≤ k ∧ run ≤ best ∧ lo ≤ (k : Int) - run ∧ (∀ i, k - run ≤ i → i < k → frB L i = true) ∧ (∀ j : Nat, lo ≤ (j : Int) → j ≤ k → (∀ i, j ≤ i → i < k → frB L i = true) → k - run ≤ j) ∧ (best = 0 ∨ ∃ j, Fits L lo hi best j) ∧ ∀ j, Fits L lo hi (best + 1) j → k < j + best + 1
theorem la_start {L : List Row4} {lo hi : Int} {k : Nat} (h : (k : Int) = lo) : LongAt L lo hi k 0 0 :=
  ⟨Nat.zero_le _, Nat.le_refl _, by omega, fun i _ _ => by omega, fun j a b _ => by omega, Or.inl rfl, fun j hj => by have := hj.2.1; omega⟩
theorem la_free {L : List Row4} {lo hi : Int} {k run best : Nat} (h : LongAt L lo hi k run best) (hk : k < L.length) (hh : (k : Int) < hi) (hf : frB L k = true) : LongAt L lo hi (k + 1) (run + 1) (max best (run + 1)) := by
  obtain ⟨h1, h2, h3, h4, h5, h6, h7⟩ := h
  have hfree : ∀ i, k + 1 - (run + 1) ≤ i → i < k + 1 → frB L i = true := fun i a b => by
    rcases Nat.lt_or_ge i k with q | q
    · exact h4 i (by omega) q
    · rw [show i = k by omega]; exact hf
  refine ⟨by omega, by omega, by omega, hfree, fun j a b c => ?_, ?_, fun j hj => ?_⟩
  · rcases Nat.lt_or_ge k j with q | q
    · omega
    · have := h5 j a q (fun i x y => c i x (by omega)); omega
  · rcases Nat.lt_or_ge best (run + 1) with q | q
    · rw [show max best (run + 1) = run + 1 by omega]
      exact Or.inr ⟨k - run, by omega, by omega, by omega, fun i a b => hfree i (by omega) (by omega)⟩
    · rw [show max best (run + 1) = best by omega]; exact h6
  · have q := h7 j (fits_less hj (by omega))
    rcases Nat.lt_or_ge (k + 1) (j + max best (run + 1) + 1) with z | z
    · exact z
    · exfalso
      have := h5 j hj.2.1 (by omega) (fun i a b => hj.2.2.2 i a (by omega))
      omega
theorem la_full {L : List Row4} {lo hi : Int} {k run best : Nat} (h : LongAt L lo hi k run best) (hf : frB L k = false) : LongAt L lo hi (k + 1) 0 best := by
  obtain ⟨h1, h2, h3, h4, h5, h6, h7⟩ := h
  refine ⟨by omega, by omega, by omega, fun i a b => by omega, fun j a b c => ?_, h6, fun j hj => ?_⟩
  · rcases Nat.lt_or_ge k j with q | q
    · omega
    · have := c k q (by omega); rw [hf] at this; cases this
  · have q := h7 j hj
    rcases Nat.lt_or_ge (k + 1) (j + best + 1) with z | z
    · exact z
    · have := hj.2.2.2 k (by omega) (by omega)
      rw [hf] at this; cases this
theorem la_end {L : List Row4} {lo hi : Int} {k run best : Nat} (h : LongAt L lo hi k run best) (hk : hi ≤ (k : Int)) : IsLong L lo hi best :=
  ⟨h.2.2.2.2.2.1, fun j hj => by have q := h.2.2.2.2.2.2 j hj; have := hj.2.2.1; omega⟩
/-- Down over what is no first page. -/
def downI (L : List Row4) : Nat → Int
  | 0 => if (L.getD 0 zr).k = 3 then -1 else 0
  | k + 1 => if (L.getD (k + 1) zr).k = 3 then downI L k else ((k + 1 : Nat) : Int)
theorem down_bd (L : List Row4) : ∀ k, -1 ≤ downI L k ∧ downI L k ≤ (k : Int)
  | 0 => by unfold downI; split <;> omega
  | k + 1 => by unfold downI; have := down_bd L k; split <;> omega
end Go.Proofs.Ytfbdnjmljdfjjaa
