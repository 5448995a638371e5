/- Layer 4's plain law: tables that are whole stay whole; heads; sums. No conditions beside those stated. -/
import Derived.Test.YtfbdnjmljdfjjaaPageS
namespace Go.Proofs.Ytfbdnjmljdfjjaa
open Go.RowKit
set_option linter.unusedVariables false
set_option linter.unusedSimpArgs false
abbrev at4 (L : List Row4) (k : Nat) : Row4 := L.getD k zr
/-- Each page is free, or a first one, or belongs to one ahead. -/
def WF (L : List Row4) : Prop := ∀ k, k < L.length → at4 L k = zr ∨ (isF (at4 L k).k = true ∧ 1 ≤ (at4 L k).n ∧ (k : Int) + (at4 L k).n ≤ L.length ∧ ∀ j : Nat, k < j → (j : Int) < k + (at4 L k).n → at4 L j = tl) ∨ (at4 L k = tl ∧ ∃ h : Nat, h < k ∧ isF (at4 L h).k = true ∧ (k : Int) < h + (at4 L h).n)
theorem at4_out {L : List Row4} {k : Nat} (h : L.length ≤ k) : at4 L k = zr := by unfold at4; rw [List.getD_eq_getElem?_getD, List.getElem?_eq_none h]; rfl
theorem isF_zr {r : Row4} (h : r = zr) : isF r.k = false := by rw [h]; rfl
theorem isF_tl {r : Row4} (h : r = tl) : isF r.k = false := by rw [h]; rfl
theorem isZ_eq {r : Row4} (h : isZ r = true) : r = zr := by
  unfold isZ at h; simp only [Bool.and_eq_true, beq_iff_eq, and_assoc] at h
  obtain ⟨a, b, c, d⟩ := h
  cases r; simp only at a b c d; subst a b c d; rfl
/-- A first page, by the case it must be. -/
theorem wf_first {L : List Row4} (h : WF L) {k : Nat} (hf : isF (at4 L k).k = true) : k < L.length ∧ 1 ≤ (at4 L k).n ∧ (k : Int) + (at4 L k).n ≤ L.length ∧ ∀ j : Nat, k < j → (j : Int) < k + (at4 L k).n → at4 L j = tl := by
  have hk : k < L.length := by
    rcases Nat.lt_or_ge k L.length with q | q
    · exact q
    · rw [isF_zr (at4_out q)] at hf; cases hf
  rcases h k hk with q | q | q
  · rw [isF_zr q] at hf; cases hf
  · exact ⟨hk, q.2⟩
  · rw [isF_tl q.1] at hf; cases hf
theorem wf_new (n : Nat) : WF (List.replicate n zr) := fun k hk => by
  have hk' : k < n := by simpa using hk
  refine Or.inl ?_
  unfold at4
  rw [List.getD_eq_getElem?_getD, List.getElem?_replicate, if_pos hk']; rfl
theorem at4_laid {L : List Row4} {k : Nat} {r : Row4} (hn : 1 ≤ r.n) (h : (k : Int) + r.n ≤ L.length) (i : Nat) : at4 (laid L k r) i = if k ≤ i ∧ (i : Int) < k + r.n then (if i = k then r else tl) else at4 L i := by
  unfold at4 laid
  rw [lay_get (by simp; omega)]
  have e : (r :: List.replicate (r.n.toNat - 1) tl).length = r.n.toNat := by simp; omega
  rw [e]
  by_cases q : k ≤ i ∧ (i : Int) < k + r.n
  · rw [if_pos q, if_pos (by omega)]
    by_cases z : i = k
    · rw [if_pos z, z, Nat.sub_self]; rfl
    · rw [if_neg z]
      obtain ⟨j, hj⟩ : ∃ j, i - k = j + 1 := ⟨i - k - 1, by omega⟩
      rw [hj, List.getD_eq_getElem?_getD, List.getElem?_cons_succ, List.getElem?_replicate, if_pos (by omega)]; rfl
  · rw [if_neg q, if_neg (by omega)]
theorem laid_length {L : List Row4} {k : Nat} {r : Row4} (hn : 1 ≤ r.n) (h : (k : Int) + r.n ≤ L.length) : (laid L k r).length = L.length := lay_length (by simp; omega)
theorem at4_cleared {L : List Row4} {k n : Nat} (h : k + n ≤ L.length) (i : Nat) : at4 (cleared L k n) i = if k ≤ i ∧ i < k + n then zr else at4 L i := by
  unfold at4 cleared
  rw [lay_get (by simpa using h), List.length_replicate]
  by_cases q : k ≤ i ∧ i < k + n
  · rw [if_pos q, if_pos q, List.getD_eq_getElem?_getD, List.getElem?_replicate, if_pos (by omega)]; rfl
  · rw [if_neg q, if_neg q]
theorem cleared_length {L : List Row4} {k n : Nat} (h : k + n ≤ L.length) : (cleared L k n).length = L.length := lay_length (by simpa using h)
theorem fits_at {L : List Row4} {lo hi : Int} {n k : Nat} (h : Fits L lo hi n k) {i : Nat} (h1 : k ≤ i) (h2 : i < k + n) : at4 L i = zr := isZ_eq (h.2.2.2 i h1 h2)
theorem wf_laid {L : List Row4} (h : WF L) {lo hi : Int} {k : Nat} {r : Row4} (hm : mayR r = true) (hf : Fits L lo hi r.n.toNat k) : WF (laid L k r) := by
  rw [mayR_iff] at hm
  obtain ⟨hm1, hm2, hm3⟩ := hm
  have hb : (k : Int) + r.n ≤ L.length := by have := hf.1; omega
  have hfree : ∀ i, k ≤ i → (i : Int) < k + r.n → at4 L i = zr := fun i a b => fits_at hf a (by omega)
  intro i hi
  rw [laid_length hm2 hb] at hi ⊢
  have A := at4_laid (L := L) (k := k) hm2 hb
  by_cases q : k ≤ i ∧ (i : Int) < k + r.n
  · by_cases z : i = k
    · subst z
      have e : at4 (laid L i r) i = r := by rw [A, if_pos q, if_pos rfl]
      rw [e]
      refine Or.inr (Or.inl ⟨hm1, hm2, hb, fun j a b => ?_⟩)
      rw [A, if_pos ⟨by omega, b⟩, if_neg (by omega)]
    · refine Or.inr (Or.inr ⟨by rw [A, if_pos q, if_neg z], k, by omega, ?_⟩)
      rw [A, if_pos ⟨Nat.le_refl _, by omega⟩, if_pos rfl]
      exact ⟨hm1, q.2⟩
  · have e : at4 (laid L k r) i = at4 L i := by rw [A, if_neg q]
    rw [e]
    rcases h i hi with c | ⟨c1, c2, c3, c4⟩ | ⟨c1, h0, c2, c3, c4⟩
    · exact Or.inl c
    · refine Or.inr (Or.inl ⟨c1, c2, c3, fun j a b => ?_⟩)
      have := c4 j a b
      rw [A, if_neg (fun z => ?_)]
      · exact this
      · rw [hfree j z.1 z.2] at this; cases this
    · refine Or.inr (Or.inr ⟨c1, h0, c2, ?_⟩)
      rw [A, if_neg (fun z => ?_)]
      · exact ⟨c3, c4⟩
      · rw [hfree h0 z.1 z.2] at c3; cases c3
theorem wf_cleared {L : List Row4} (h : WF L) {k n : Nat} (hf : isF (at4 L k).k = true) (hn : (at4 L k).n = n) : WF (cleared L k n) := by
  obtain ⟨hk, h1, h2, h3⟩ := wf_first h hf
  rw [hn] at h1 h2 h3
  have A := at4_cleared (L := L) (k := k) (n := n) (by omega)
  intro i hi
  rw [cleared_length (by omega)] at hi ⊢
  by_cases q : k ≤ i ∧ i < k + n
  · exact Or.inl (by rw [A, if_pos q])
  · have e : at4 (cleared L k n) i = at4 L i := by rw [A, if_neg q]
    rw [e]
    rcases h i hi with c | ⟨c1, c2, c3, c4⟩ | ⟨c1, h0, c2, c3, c4⟩
    · exact Or.inl c
    · refine Or.inr (Or.inl ⟨c1, c2, c3, fun j a b => ?_⟩)
      have c5 := c4 j a b
      rw [A, if_neg (fun z => ?_)]
      · exact c5
      · rcases Nat.lt_trichotomy k i with y | y | y
        · omega
        · omega
        · have := c4 k y (by omega)
          rw [this] at hf; cases hf
    · refine Or.inr (Or.inr ⟨c1, h0, c2, ?_⟩)
      rw [A, if_neg (fun z => ?_)]
      · exact ⟨c3, c4⟩
      · have z1 := z.1; have z2 := z.2
        rcases Nat.lt_or_ge k h0 with y | y
        · have := h3 h0 y (by omega)
          rw [this] at c3; cases c3
        · have e : h0 = k := by omega
          subst e
          rw [hn] at c4; omega
/-- Down over the tails. -/
theorem down_eq {L : List Row4} {h : Nat} (hh : (at4 L h).k ≠ 3) : ∀ m : Nat, h ≤ m → (∀ j, h < j → j ≤ m → (at4 L j).k = 3) → downI L m = (h : Int)
  | 0, h1, h2 => by
    have : h = 0 := by omega
    subst this
    unfold downI; rw [if_neg hh]; rfl
  | m + 1, h1, h2 => by
    by_cases q : h = m + 1
    · subst q
      show (if (at4 L (m + 1)).k = 3 then downI L m else _) = _
      rw [if_neg hh]
    · show (if (at4 L (m + 1)).k = 3 then downI L m else _) = _
      rw [if_pos (h2 (m + 1) (by omega) (Nat.le_refl _))]
      exact down_eq hh m (by omega) (fun j a b => h2 j a (by omega))
theorem owns_one {L : List Row4} (hw : WF L) {a : Int} {k k' : Nat} (h : Owns L a k) (h' : Owns L a k') : k = k' := by
  have key : ∀ k k' : Nat, Owns L a k → Owns L a k' → ¬ k < k' := fun k k' h h' q => by
    have z := (wf_first hw h.2.1).2.2.2 k' q (by have := h.2.2.2; have := h'.2.2.1; have e : (L.getD k zr).n = (at4 L k).n := rfl; omega)
    have := h'.2.1
    rw [show L.getD k' zr = tl from z] at this; cases this
  have a1 := key k k' h h'
  have a2 := key k' k h' h
  omega
theorem isF_kind {k : Int} (h : isF k = true) : k ≠ 3 ∧ k ≠ 0 := by rw [isF_iff] at h; omega
theorem head_eq {L : List Row4} (hw : WF L) {a r : Int} (h : IsHead L a r) : headI L a = r := by
  have hno : ∀ k, Owns L a k → r = k := fun k hk => by
    rcases h with ⟨_, q⟩ | ⟨k', e, q⟩
    · exact absurd hk (q k)
    · rw [e, owns_one hw q hk]
  have hyes : (∀ k, ¬ Owns L a k) → r = -1 := fun q => by
    rcases h with ⟨e, _⟩ | ⟨k', e, z⟩
    · exact e
    · exact absurd z (q k')
  unfold headI
  by_cases ha : a < 0
  · rw [if_pos ha]
    exact (hyes (fun k hk => by have := hk.2.2.1; omega)).symm
  · rw [if_neg ha]
    obtain ⟨m, rfl⟩ : ∃ m : Nat, a = m := ⟨a.toNat, by omega⟩
    rw [Int.toNat_natCast]
    rcases Nat.lt_or_ge m L.length with hm | hm
    · rcases hw m hm with c | ⟨c1, c2, c3, c4⟩ | ⟨c1, h0, c2, c3, c4⟩
      · have e : downI L m = m := down_eq (by rw [c]; decide) m (Nat.le_refl _) (fun j x y => by omega)
        rw [e, rowI_nat, if_neg (by rw [show L.getD m zr = zr from c]; decide)]
        refine (hyes (fun k hk => ?_)).symm
        obtain ⟨o1, o2, o3, o4⟩ := hk
        rcases Nat.lt_or_ge k m with y | y
        · have e2 : (L.getD k zr).n = (at4 L k).n := rfl
          have := (wf_first hw o2).2.2.2 m y (by omega)
          rw [c] at this; cases this
        · have : k = m := by omega
          subst this
          rw [show L.getD k zr = zr from c] at o2; cases o2
      · have e : downI L m = m := down_eq (isF_kind c1).1 m (Nat.le_refl _) (fun j x y => by omega)
        rw [e, rowI_nat, if_pos c1]
        exact (hno m ⟨hm, c1, by omega, by have : (L.getD m zr).n = (at4 L m).n := rfl; omega⟩).symm
      · have hb := (wf_first hw c3).2.2.2
        have e : downI L m = h0 := down_eq (isF_kind c3).1 m (by omega) (fun j x y => by rw [hb j x (by omega)]; rfl)
        rw [e, rowI_nat, if_pos c3]
        exact (hno h0 ⟨by omega, c3, by omega, by have : (L.getD h0 zr).n = (at4 L h0).n := rfl; omega⟩).symm
    · rw [down_out hm, rowI_out (by omega), if_neg (by decide)]
      refine (hyes (fun k hk => ?_)).symm
      have := (wf_first hw hk.2.1).2.2.1
      have e : (L.getD k zr).n = (at4 L k).n := rfl
      have := hk.2.2.2
      omega
theorem head_is {L : List Row4} (hw : WF L) (a : Int) : IsHead L a (headI L a) := by
  by_cases q : ∃ k, Owns L a k
  · obtain ⟨k, hk⟩ := q
    rw [head_eq hw (Or.inr ⟨k, rfl, hk⟩)]
    exact Or.inr ⟨k, rfl, hk⟩
  · rw [head_eq hw (Or.inl ⟨rfl, fun k hk => q ⟨k, hk⟩⟩)]
    exact Or.inl ⟨rfl, fun k hk => q ⟨k, hk⟩⟩
/-- The runs of the first pages among the first ones. -/
def sumN (L : List Row4) : Nat → Nat
  | 0 => 0
  | m + 1 => sumN L m + if isF (at4 L m).k = true then (at4 L m).n.toNat else 0
theorem sum_inv {L : List Row4} (hw : WF L) : ∀ p : Nat, p ≤ L.length → p ≤ cntT L 0 L.length 0 p + sumN L p ∧ cntT L 0 L.length 0 p + sumN L p ≤ L.length ∧ (∀ j, p ≤ j → j < cntT L 0 L.length 0 p + sumN L p → at4 L j = tl) ∧ ∀ h : Nat, h < p → isF (at4 L h).k = true → (h : Int) + (at4 L h).n ≤ ((cntT L 0 L.length 0 p + sumN L p : Nat) : Int)
  | 0, _ => ⟨Nat.zero_le _, Nat.zero_le _, fun j a b => by simp [cntT, sumN] at b, fun h a _ => by omega⟩
  | p + 1, hp => by
    obtain ⟨i1, i2, i3, i4⟩ := sum_inv hw p (by omega)
    have ec : cntT L 0 L.length 0 (p + 1) = cntT L 0 L.length 0 p + if (at4 L p).k = 0 then 1 else 0 := by
      show cntT L 0 L.length 0 p + (if (0 : Int) ≤ (p : Int) ∧ (p : Int) < L.length ∧ (L.getD p zr).k = 0 then 1 else 0) = _
      congr 1
      by_cases q : (at4 L p).k = 0
      · rw [if_pos q, if_pos ⟨by omega, by omega, q⟩]
      · rw [if_neg q, if_neg (fun z => q z.2.2)]
    have es : sumN L (p + 1) = sumN L p + if isF (at4 L p).k = true then (at4 L p).n.toNat else 0 := rfl
    rw [ec, es]
    generalize cntT L 0 L.length 0 p = C at *
    generalize sumN L p = S at *
    rcases hw p (by omega) with c | ⟨c1, c2, c3, c4⟩ | ⟨c1, h0, c2, c3, c4⟩
    · rw [c, if_pos (show zr.k = 0 from rfl), if_neg (show ¬ isF zr.k = true by decide)]
      have e : C + S = p := by
        rcases Nat.lt_or_ge p (C + S) with q | q
        · have := i3 p (Nat.le_refl _) q; rw [c] at this; cases this
        · omega
      refine ⟨by omega, by omega, fun j a b => by omega, fun h a b => ?_⟩
      rcases Nat.lt_or_ge h p with q | q
      · have := i4 h q b; omega
      · have : h = p := by omega
        subst this; rw [c] at b; cases b
    · have k0 := isF_kind c1
      rw [if_neg k0.2, if_pos c1]
      have e : C + S = p := by
        rcases Nat.lt_or_ge p (C + S) with q | q
        · have := i3 p (Nat.le_refl _) q; rw [this] at c1; cases c1
        · omega
      refine ⟨by omega, by omega, fun j a b => c4 j (by omega) (by omega), fun h a b => ?_⟩
      rcases Nat.lt_or_ge h p with q | q
      · have := i4 h q b; omega
      · have : h = p := by omega
        subst this; omega
    · rw [if_neg (by rw [c1]; decide), if_neg (by rw [c1]; decide)]
      have q := i4 h0 c2 c3
      refine ⟨by omega, by omega, fun j a b => i3 j (by omega) (by omega), fun h a b => ?_⟩
      rcases Nat.lt_or_ge h p with q | q
      · have := i4 h q b; omega
      · have : h = p := by omega
        subst this; rw [c1] at b; cases b
theorem sum_all {L : List Row4} (hw : WF L) : countI L 0 L.length 0 + sumN L L.length = L.length := by
  obtain ⟨i1, i2, _⟩ := sum_inv hw L.length (Nat.le_refl _)
  unfold countI; omega
theorem back {L : List Row4} {lo hi : Int} {k : Nat} {r : Row4} (hm : mayR r = true) (hf : Fits L lo hi r.n.toNat k) : cleared (laid L k r) k r.n.toNat = L := by
  rw [mayR_iff] at hm
  obtain ⟨hm1, hm2, hm3⟩ := hm
  have hb : (k : Int) + r.n ≤ L.length := by have := hf.1; omega
  have hl : (laid L k r).length = L.length := laid_length hm2 hb
  have hl2 : (cleared (laid L k r) k r.n.toNat).length = L.length := by rw [cleared_length (by omega), hl]
  apply List.ext_getElem hl2
  intro i h1 h2
  have e1 : at4 (cleared (laid L k r) k r.n.toNat) i = at4 L i := by
    rw [at4_cleared (by omega)]
    by_cases q : k ≤ i ∧ i < k + r.n.toNat
    · rw [if_pos q, fits_at hf q.1 q.2]
    · rw [if_neg q, at4_laid hm2 hb, if_neg (by omega)]
  rw [← getD_in h1, ← getD_in h2]; exact e1
end Go.Proofs.Ytfbdnjmljdfjjaa
