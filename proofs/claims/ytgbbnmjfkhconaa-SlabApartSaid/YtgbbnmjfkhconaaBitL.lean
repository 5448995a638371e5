/- Layer 2, plain: words of 64 bits as lists of truths; the next one of a value; all that are so; how many. No program in sight, no conditions beside those stated. -/
import Derived.Test.YtgbbnmjfkhconaaBlk
import Derived.Laws.Bits64b
import Derived.Laws.BitsAllLaws
import Derived.Lib.TrailingZeros
namespace Go.Proofs.Ytgbbnmjfkhconaa
open Go.RowKit
set_option linter.unusedVariables false
set_option linter.unusedSimpArgs false
/-- The words hold the truths; behind them all is false. -/
structure BitsOf (W : List Nat) (l : List Bool) : Prop where
  len : W.length = (l.length + 63) / 64
  lt : ∀ j, W.getD j 0 < 18446744073709551616
  bt : ∀ j t, t < 64 → (W.getD j 0).testBit t = l.getD (64 * j + t) false
theorem getD_rep (n k : Nat) (b : Bool) (h : b = false) : (List.replicate n b).getD k false = false := by
  subst h
  rw [List.getD_eq_getElem?_getD, List.getElem?_replicate]; split <;> rfl
theorem bits_new (n : Nat) : BitsOf (List.replicate ((n + 63) / 64) 0) (List.replicate n false) := by
  have e : ∀ j, (List.replicate ((n + 63) / 64) (0 : Nat)).getD j 0 = 0 := fun j => by
    rw [List.getD_eq_getElem?_getD, List.getElem?_replicate]; split <;> rfl
  refine ⟨by simp, fun j => by rw [e]; decide, fun j t _ => ?_⟩
  rw [e, getD_rep _ _ _ rfl, Nat.zero_testBit]
def bsetW (x t : Nat) (v : Bool) : Nat := if v then x ||| 2 ^ t else x &&& (18446744073709551615 - 2 ^ t)
theorem pow_lt64 {t : Nat} (h : t < 64) : 2 ^ t < 18446744073709551616 := by
  have := Nat.pow_lt_pow_right (a := 2) (by decide) h
  simpa using this
theorem bsetW_lt {x t : Nat} (hx : x < 18446744073709551616) (ht : t < 64) (v : Bool) : bsetW x t v < 18446744073709551616 := by
  have hp := pow_lt64 ht
  unfold bsetW
  cases v
  · exact Nat.lt_of_le_of_lt Nat.and_le_left hx
  · exact Nat.or_lt_two_pow (n := 64) hx hp
theorem bsetW_bit {x t : Nat} (ht : t < 64) (v : Bool) (s : Nat) (hs : s < 64) : (bsetW x t v).testBit s = if s = t then v else x.testBit s := by
  have hp := pow_lt64 ht
  unfold bsetW
  cases v
  · rw [if_neg (by decide), Nat.testBit_and, show 18446744073709551615 - 2 ^ t = 2 ^ 64 - (2 ^ t + 1) by omega, Nat.testBit_two_pow_sub_succ (by simpa using hp), Nat.testBit_two_pow]
    by_cases e : s = t
    · subst e; simp
    · rw [if_neg e, decide_eq_true hs, decide_eq_false (fun h => e h.symm)]; simp
  · rw [if_pos rfl, Nat.testBit_or, Nat.testBit_two_pow]
    by_cases e : s = t
    · subst e; simp
    · rw [if_neg e, decide_eq_false (fun h => e h.symm), Bool.or_false]
theorem getD_set {α : Type} (l : List α) (k j : Nat) (x d : α) (hk : k < l.length) : (l.set k x).getD j d = if j = k then x else l.getD j d := by
  rw [List.getD_eq_getElem?_getD, List.getElem?_set]
  by_cases e : k = j
  · subst e; rw [if_pos rfl, if_pos rfl, if_pos hk]; rfl
  · rw [if_neg e, if_neg (fun h => e h.symm), ← List.getD_eq_getElem?_getD]
theorem bits_put {W : List Nat} {l : List Bool} (h : BitsOf W l) {k : Nat} (hk : k < l.length) (v : Bool) : BitsOf (W.set (k / 64) (bsetW (W.getD (k / 64) 0) (k % 64) v)) (l.set k v) := by
  have hj : k / 64 < W.length := by rw [h.len]; omega
  refine ⟨by simp [h.len], fun j => ?_, fun j t ht => ?_⟩
  · rw [getD_set _ _ _ _ _ hj]; split
    · exact bsetW_lt (h.lt _) (Nat.mod_lt _ (by decide)) v
    · exact h.lt j
  · rw [getD_set _ _ _ _ _ hj, getD_set _ _ _ _ _ hk]
    by_cases e : j = k / 64
    · subst e
      rw [if_pos rfl, bsetW_bit (Nat.mod_lt _ (by decide)) v t ht]
      by_cases e2 : t = k % 64
      · rw [if_pos e2, if_pos (by omega)]
      · rw [if_neg e2, if_neg (by omega), h.bt _ _ ht]
    · rw [if_neg e, if_neg (by omega), h.bt _ _ ht]
/-- The first of a value from one on. -/
def nextO (l : List Bool) (v : Bool) (f : Nat) : Option Nat := (List.range l.length).find? (fun j => decide (f ≤ j) && (l.getD j false == v))
theorem nextO_some {l : List Bool} {v : Bool} {f k : Nat} : nextO l v f = some k ↔ f ≤ k ∧ k < l.length ∧ l.getD k false = v ∧ ∀ j, f ≤ j → j < k → l.getD j false ≠ v := by
  unfold nextO
  rw [List.find?_range_eq_some]
  simp only [Bool.and_eq_true, decide_eq_true_eq, beq_iff_eq, List.mem_range, Bool.not_eq_true', Bool.and_eq_false_iff, decide_eq_false_iff_not, beq_eq_false_iff_ne]
  constructor
  · rintro ⟨⟨h1, h2⟩, h3, h4⟩
    exact ⟨h1, h3, h2, fun j a b => (h4 j b).resolve_left (fun h => h a)⟩
  · rintro ⟨h1, h2, h3, h4⟩
    refine ⟨⟨h1, h3⟩, h2, fun j b => ?_⟩
    by_cases a : f ≤ j
    · exact Or.inr (h4 j a b)
    · exact Or.inl a
theorem nextO_none {l : List Bool} {v : Bool} {f : Nat} : nextO l v f = none ↔ ∀ j, f ≤ j → j < l.length → l.getD j false ≠ v := by
  unfold nextO
  rw [List.find?_eq_none]
  simp only [Bool.and_eq_true, decide_eq_true_eq, beq_iff_eq, List.mem_range, not_and]
  exact ⟨fun h j a b => h j b a, fun h j b a => h j a b⟩
theorem nextO_skip {l : List Bool} {v : Bool} {f f' : Nat} (h : f ≤ f') (hs : ∀ j, f ≤ j → j < f' → l.getD j false ≠ v) : nextO l v f = nextO l v f' := by
  cases e : nextO l v f' with
  | none =>
    rw [nextO_none] at e ⊢
    intro j a b
    rcases Nat.lt_or_ge j f' with q | q
    · exact hs j a q
    · exact e j q b
  | some k =>
    rw [nextO_some] at e ⊢
    obtain ⟨e1, e2, e3, e4⟩ := e
    refine ⟨by omega, e2, e3, fun j a b => ?_⟩
    rcases Nat.lt_or_ge j f' with q | q
    · exact hs j a q
    · exact e4 j q b
theorem nextO_hit {l : List Bool} {v : Bool} {k : Nat} (h : k < l.length) (hv : l.getD k false = v) : nextO l v k = some k := nextO_some.2 ⟨Nat.le_refl _, h, hv, fun j a b => by omega⟩
theorem nextO_end {l : List Bool} {v : Bool} {f : Nat} (h : l.length ≤ f) : nextO l v f = none := nextO_none.2 (fun j a b => by omega)
/-- A word, or its opposite. -/
def turnW (x : Nat) (v : Bool) : Nat := if v then x else 18446744073709551615 - x
theorem turnW_lt {x : Nat} (hx : x < 18446744073709551616) (v : Bool) : turnW x v < 18446744073709551616 := by unfold turnW; split <;> omega
theorem turnW_bit {x : Nat} (hx : x < 18446744073709551616) (v : Bool) (t : Nat) (ht : t < 64) : (turnW x v).testBit t = (x.testBit t == v) := by
  unfold turnW
  cases v
  · rw [if_neg (by decide), show 18446744073709551615 - x = 2 ^ 64 - (x + 1) by omega, Nat.testBit_two_pow_sub_succ (by simpa using hx), decide_eq_true ht]; simp
  · rw [if_pos rfl]; simp
theorem word_bit {W : List Nat} {l : List Bool} (h : BitsOf W l) (v : Bool) (i s : Nat) (hs : i % 64 + s < 64) : (turnW (W.getD (i / 64) 0) v / 2 ^ (i % 64)).testBit s = (l.getD (i + s) false == v) := by
  rw [Nat.testBit_div_two_pow, turnW_bit (h.lt _) v _ (by omega), h.bt _ _ (by omega), show 64 * (i / 64) + (s + i % 64) = i + s by omega]
theorem word_zero {W : List Nat} {l : List Bool} (h : BitsOf W l) (v : Bool) (i : Nat) (hz : turnW (W.getD (i / 64) 0) v / 2 ^ (i % 64) = 0) : nextO l v i = nextO l v ((i / 64 + 1) * 64) := by
  refine nextO_skip (by omega) (fun j a b => ?_)
  have := word_bit h v i (j - i) (by omega)
  rw [hz, Nat.zero_testBit, show i + (j - i) = j by omega] at this
  intro e
  rw [e] at this
  simp at this
theorem ctz_bits {z : Nat} (h0 : z ≠ 0) (hz : z < 18446744073709551616) : z.testBit (Lib.ctz 64 z) = true ∧ (∀ s, s < Lib.ctz 64 z → z.testBit s = false) ∧ Lib.ctz 64 z < 64 := by
  obtain ⟨hlow, hk⟩ := Lib.lowest_bit 64 z h0 hz
  refine ⟨?_, fun s hs => ?_, hk⟩
  · have : (z &&& (2 ^ 64 - z)).testBit (Lib.ctz 64 z) = true := by rw [hlow]; simp
    rw [Nat.testBit_and] at this
    simp only [Bool.and_eq_true] at this
    exact this.1
  · obtain ⟨m, hm, _⟩ := Lib.ctzFrom_spec 64 z (by omega) hz
    have e : Lib.ctz 64 z = Lib.ctzFrom 64 z := by unfold Lib.ctz; rw [if_neg h0]
    rw [e] at hs
    rw [hm, Nat.testBit_two_pow_mul, decide_eq_false (by omega)]; rfl
theorem word_hit {W : List Nat} {l : List Bool} (h : BitsOf W l) (v : Bool) (i : Nat) (hz : turnW (W.getD (i / 64) 0) v / 2 ^ (i % 64) ≠ 0) (c : Nat) (hc : c = Lib.ctz 64 (turnW (W.getD (i / 64) 0) v / 2 ^ (i % 64))) :
    c < 64 ∧ (nextO l v i = if i + c < l.length then some (i + c) else none) := by
  have hlt := turnW_lt (h.lt (i / 64)) v
  have hzl : turnW (W.getD (i / 64) 0) v / 2 ^ (i % 64) < 18446744073709551616 := Nat.lt_of_le_of_lt (Nat.div_le_self _ _) hlt
  obtain ⟨c1, c2, c3⟩ := ctz_bits hz hzl
  rw [← hc] at c1 c2 c3
  have hb : i % 64 + c < 64 := by
    rw [Nat.testBit_div_two_pow] at c1
    rcases Nat.lt_or_ge (i % 64 + c) 64 with q | q
    · exact q
    · rw [Nat.testBit_lt_two_pow (Nat.lt_of_lt_of_le hlt (by have := Nat.pow_le_pow_right (n := 2) (by decide) (show 64 ≤ c + i % 64 by omega); rw [show (2 : Nat) ^ 64 = 18446744073709551616 by decide] at this; exact this))] at c1; cases c1
  have s1 : ∀ j, i ≤ j → j < i + c → l.getD j false ≠ v := fun j a b => by
    have := word_bit h v i (j - i) (by omega)
    rw [c2 _ (by omega), show i + (j - i) = j by omega] at this
    intro e
    rw [e] at this
    simp at this
  refine ⟨c3, ?_⟩
  rw [nextO_skip (by omega) s1]
  have := word_bit h v i c hb
  rw [c1] at this
  have hv : l.getD (i + c) false = v := by simpa using this.symm
  split
  · rename_i q; exact nextO_hit q hv
  · rename_i q; exact nextO_end (by omega)
/-- The places of those that are true, from one on. -/
def allF (l : List Bool) (f : Nat) : List Nat := (List.range' f (l.length - f)).filter (fun j => l.getD j false)
theorem allF_none {l : List Bool} {f : Nat} (h : nextO l true f = none) : allF l f = [] := by
  unfold allF
  rw [List.filter_eq_nil_iff]
  intro j hj
  rw [List.mem_range'_1] at hj
  have := nextO_none.1 h j (by omega) (by omega)
  simpa using this
theorem allF_some {l : List Bool} {f k : Nat} (h : nextO l true f = some k) : allF l f = k :: allF l (k + 1) := by
  obtain ⟨h1, h2, h3, h4⟩ := nextO_some.1 h
  unfold allF
  have e : l.length - f = (k - f) + ((l.length - (k + 1)) + 1) := by omega
  rw [e, ← List.range'_append_1, List.filter_append, List.filter_eq_nil_iff.2 (fun j hj => by
    rw [List.mem_range'_1] at hj
    have := h4 j (by omega) (by omega)
    simpa using this), List.nil_append, show f + (k - f) = k by omega, List.range'_succ, List.filter_cons, if_pos h3]
theorem allF_to {l : List Bool} (k : Nat) (hk : k < l.length) : (List.range (k + 1)).filter (fun j => l.getD j false) = (List.range k).filter (fun j => l.getD j false) ++ (if l.getD k false then [k] else []) := by
  rw [List.range_succ, List.filter_append, List.filter_cons, List.filter_nil]
theorem allF_zero (l : List Bool) : allF l 0 = (List.range l.length).filter (fun j => l.getD j false) := by
  unfold allF; rw [Nat.sub_zero, List.range_eq_range']
theorem allF_lt (l : List Bool) (f : Nat) : ∀ x ∈ allF l f, x < l.length := fun x hx => by
  unfold allF at hx
  have := (List.mem_filter.1 hx).1
  rw [List.mem_range'_1] at this; omega
theorem allF_len (l : List Bool) (f : Nat) : (allF l f).length ≤ l.length - f := by
  unfold allF
  exact Nat.le_trans (List.length_filter_le _ _) (by rw [List.length_range']; exact Nat.le_refl _)
/-- Two rows are the same just if they have as many bits, and the same places. -/
theorem allF_inj {l m : List Bool} (hl : l.length = m.length) (h : allF l 0 = allF m 0) : l = m := by
  apply List.ext_getElem hl
  intro i h1 h2
  have e : ∀ (k : List Bool) (hk : i < k.length), (i ∈ allF k 0 ↔ k[i] = true) := fun k hk => by
    rw [allF_zero, List.mem_filter, List.mem_range, List.getD_eq_getElem?_getD, List.getElem?_eq_getElem hk]
    simp [hk]
  have e1 := e l h1
  have e2 := e m h2
  rw [h] at e1
  have := e1.symm.trans e2
  rw [Bool.eq_iff_iff]; exact this
/-- How many are true, of the first so many. -/
def cntF (l : List Bool) (k : Nat) : Nat := ((List.range k).filter (fun j => l.getD j false)).length
def pop (x : Nat) : Nat := ((List.range 64).filter (fun t => x.testBit t)).length
theorem cntF_le (l : List Bool) (k : Nat) : cntF l k ≤ k := Nat.le_trans (List.length_filter_le _ _) (by simp)
theorem pop_le (x : Nat) : pop x ≤ 64 := Nat.le_trans (List.length_filter_le _ _) (by simp)
theorem cntF_word {W : List Nat} {l : List Bool} (h : BitsOf W l) (j : Nat) : cntF l (64 * (j + 1)) = cntF l (64 * j) + pop (W.getD j 0) := by
  unfold cntF pop
  rw [show 64 * (j + 1) = 64 * j + 64 by omega, List.range_add, List.filter_append, List.length_append, List.filter_map, List.length_map]
  congr 2
  apply List.filter_congr
  intro t ht
  rw [List.mem_range] at ht
  rw [h.bt j t ht]; rfl
theorem cntF_succ (l : List Bool) (k : Nat) : cntF l (k + 1) = cntF l k + if l.getD k false then 1 else 0 := by
  unfold cntF
  rw [List.range_succ, List.filter_append, List.length_append, List.filter_cons, List.filter_nil]
  split <;> rfl
theorem cntF_over (l : List Bool) : ∀ d, cntF l (l.length + d) = cntF l l.length
  | 0 => rfl
  | d + 1 => by
    rw [← Nat.add_assoc, cntF_succ, cntF_over l d, List.getD_eq_getElem?_getD, List.getElem?_eq_none (by omega)]; rfl
theorem cntF_all {W : List Nat} {l : List Bool} (h : BitsOf W l) : cntF l (64 * W.length) = cntF l l.length := by
  have := cntF_over l (64 * W.length - l.length)
  rw [h.len] at this ⊢
  rw [show l.length + (64 * ((l.length + 63) / 64) - l.length) = 64 * ((l.length + 63) / 64) by omega] at this
  exact this
end Go.Proofs.Ytgbbnmjfkhconaa
