/- Floats, plain: kinds, orders, signs. No program in sight, no conditions beside those stated. -/
import Derived.Test.YtgiegfgoglhnoaaFlo
namespace Go.Proofs.Ytgiegfgoglhnoaa
set_option linter.unusedVariables false
set_option linter.unusedSimpArgs false
def ltB (a b : Nat) : Bool := !isNan a && !isNan b && decide (key a < key b)
def eqB (a b : Nat) : Bool := !isNan a && !isNan b && decide (key a = key b)
theorem compare_lt_iff (x y : Int) : (compare x y == Ordering.lt) = decide (x < y) := by
  rcases Int.lt_trichotomy x y with q | q | q
  · rw [cmp_lt q, decide_eq_true q]; rfl
  · subst q; rw [cmp_eq, decide_eq_false (by omega)]; rfl
  · rw [cmp_gt q, decide_eq_false (by omega)]; rfl
theorem compare_gt_iff (x y : Int) : (compare x y == Ordering.gt) = decide (y < x) := by
  rcases Int.lt_trichotomy x y with q | q | q
  · rw [cmp_lt q, decide_eq_false (by omega)]; rfl
  · subst q; rw [cmp_eq, decide_eq_false (by omega)]; rfl
  · rw [cmp_gt q, decide_eq_true q]; rfl
theorem compare_eq_iff (x y : Int) : (compare x y == Ordering.eq) = decide (x = y) := by
  rcases Int.lt_trichotomy x y with q | q | q
  · rw [cmp_lt q, decide_eq_false (by omega)]; rfl
  · subst q; rw [cmp_eq, decide_eq_true rfl]; rfl
  · rw [cmp_gt q, decide_eq_false (by omega)]; rfl
theorem lt_spell (a b : Nat) : (FloatKind.f64.format.order a b == some Ordering.lt) = ltB a b := by
  show (Ieee.double.order a b == some Ordering.lt) = ltB a b
  rw [order_eq]; unfold ordK ltB
  cases isNan a <;> cases isNan b <;> simp [compare_lt_iff]
theorem gt_spell (a b : Nat) : (FloatKind.f64.format.order a b == some Ordering.gt) = ltB b a := by
  show (Ieee.double.order a b == some Ordering.gt) = ltB b a
  rw [order_eq]; unfold ordK ltB
  cases isNan a <;> cases isNan b <;> simp [compare_gt_iff]
theorem eq_spell (a b : Nat) : (FloatKind.f64.format.order a b == some Ordering.eq) = eqB a b := by
  show (Ieee.double.order a b == some Ordering.eq) = eqB a b
  rw [order_eq]; unfold ordK eqB
  cases isNan a <;> cases isNan b <;> simp [compare_eq_iff]
theorem ne_spell (b : Nat) : (FloatKind.f64.format.order b b != some Ordering.eq) = isNan b := by
  have h := eq_spell b b
  rw [bne, h]
  unfold eqB
  cases isNan b <;> simp
def mostW : Int := 9218868437227405311
/-- 0: NaN; 1: -infinity; 2: below nought; 3, 4: the noughts; 5: above; 6: infinity. -/
def kindO (b : Nat) : Int := if isNan b = true then 0 else if key b < -mostW then 1 else if key b < 0 then 2 else if mostW < key b then 6 else if 0 < key b then 5 else if b = topW then 3 else 4
def expI (b : Nat) : Int := (b : Int) / 4503599627370496 % 2048
def frcI (b : Nat) : Int := (b : Int) % 4503599627370496
def negI (b : Nat) : Bool := (b : Int) / 9223372036854775808 == 1
theorem isNan_parts (b : Nat) : isNan b = (expI b == 2047 && decide (0 < frcI b)) := by
  unfold isNan expI frcI infW topW
  rw [Bool.eq_iff_iff]
  simp only [decide_eq_true_eq, Bool.and_eq_true, beq_iff_eq]
  omega
theorem isNan_canon (b : Nat) : isNan (canon b) = isNan b := by
  unfold canon
  cases h : isNan b with
  | true => rw [if_pos rfl]; decide
  | false => rw [if_neg (by simp)]; exact h
theorem canon_of {b : Nat} (h : isNan b = false) : canon b = b := by unfold canon; rw [h]; rfl
theorem canon_nan {b : Nat} (h : isNan b = true) : canon b = nanW := by unfold canon; rw [h]; rfl
theorem canon_canon (b : Nat) : canon (canon b) = canon b := by
  cases h : isNan b with
  | true => rw [canon_nan h]; decide
  | false => rw [canon_of h, canon_of h]
theorem canon_lt {b : Nat} (h : b < 18446744073709551616) : canon b < 18446744073709551616 := by
  unfold canon; split
  · decide
  · exact h
theorem key_low {b : Nat} (h : b < 9223372036854775808) : key b = (b : Int) := by
  unfold key topW
  rw [if_neg (by omega), Nat.mod_eq_of_lt h]
theorem key_high {b : Nat} (h : 9223372036854775808 ≤ b) (h2 : b < 18446744073709551616) : key b = -((b - 9223372036854775808 : Nat) : Int) := by
  unfold key topW
  rw [if_pos (by omega), show b % 9223372036854775808 = b - 9223372036854775808 by omega]
theorem nan_low {b : Nat} (h : b < 9223372036854775808) : isNan b = decide (9218868437227405312 < b) := by
  unfold isNan topW infW; rw [Nat.mod_eq_of_lt h]
theorem nan_high {b : Nat} (h : 9223372036854775808 ≤ b) (h2 : b < 18446744073709551616) : isNan b = decide (9218868437227405312 < b - 9223372036854775808) := by
  unfold isNan topW infW; rw [show b % 9223372036854775808 = b - 9223372036854775808 by omega]
/-- The kind by the parts, as the document has it. -/
theorem kind_parts {b : Nat} (hb : b < 18446744073709551616) (hn : isNan b = false) :
    kindO b = if negI b = true then 7 - (if expI b = 0 ∧ frcI b = 0 then 4 else if expI b = 2047 then 6 else 5) else (if expI b = 0 ∧ frcI b = 0 then 4 else if expI b = 2047 then 6 else 5) := by
  have hn2 := hn
  unfold kindO
  rw [hn, if_neg (by simp)]
  rcases Nat.lt_or_ge b 9223372036854775808 with q | q
  · rw [nan_low q, decide_eq_false_iff_not] at hn2
    have e1 : negI b = false := by unfold negI; rw [beq_eq_false_iff_ne]; omega
    rw [e1, key_low q]
    unfold expI frcI mostW topW
    simp only [Bool.false_eq_true, if_false]
    rw [if_neg (by omega), if_neg (by omega)]
    by_cases h6 : (9218868437227405311 : Int) < (b : Int)
    · rw [if_pos h6, if_neg (by omega), if_pos (by omega)]
    · rw [if_neg h6]
      by_cases h0 : (0 : Int) < (b : Int)
      · rw [if_pos h0, if_neg (by omega), if_neg (by omega)]
      · rw [if_neg h0, if_neg (by omega), if_pos (by omega)]
  · rw [nan_high q hb, decide_eq_false_iff_not] at hn2
    have e1 : negI b = true := by unfold negI; rw [beq_iff_eq]; omega
    rw [e1, key_high q hb]
    unfold expI frcI mostW topW
    simp only [if_true]
    by_cases h1 : -((b - 9223372036854775808 : Nat) : Int) < -9218868437227405311
    · rw [if_pos h1, if_neg (by omega), if_pos (by omega)]; rfl
    · rw [if_neg h1]
      by_cases h2 : -((b - 9223372036854775808 : Nat) : Int) < 0
      · rw [if_pos h2, if_neg (by omega), if_neg (by omega)]; rfl
      · rw [if_neg h2, if_neg (by omega), if_neg (by omega), if_pos (by omega), if_pos (by omega)]; rfl
theorem kind_zero (b : Nat) : (kindO b == 0) = isNan b := by
  unfold kindO
  cases h : isNan b with
  | true => rfl
  | false =>
    rw [if_neg (by simp)]
    repeat' split
    all_goals rfl
theorem kind_low {b : Nat} (h : isNan b = false) : decide (kindO b < 3) = decide (key b < 0) := by
  unfold kindO mostW
  rw [h, if_neg (by simp)]
  repeat' split
  all_goals (first | (rw [decide_eq_true (by omega), decide_eq_true (by omega)]) | (rw [decide_eq_false (by omega), decide_eq_false (by omega)]))
def totalO (a b : Nat) : Int := if kindO a < kindO b then -1 else if kindO b < kindO a then 1 else if ltB a b = true then -1 else if ltB b a = true then 1 else 0
theorem ltB_asymm {a b : Nat} (h : ltB a b = true) : ltB b a = false := by
  unfold ltB at *
  simp only [Bool.and_eq_true, Bool.not_eq_true', decide_eq_true_eq] at h
  rw [h.1.1, h.1.2, decide_eq_false (by omega)]; rfl
def topN : Nat := 9223372036854775808
/-- The sign is turned. -/
def negN (b : Nat) : Nat := b ^^^ 2 ^ 63
theorem xor_top {r : Nat} (h : r < 2 ^ 63) : r ^^^ 2 ^ 63 = 2 ^ 63 + r := by
  refine Nat.eq_of_testBit_eq fun i => ?_
  rw [Nat.testBit_xor, Nat.testBit_two_pow]
  rcases Nat.lt_trichotomy i 63 with q | q | q
  · rw [Nat.testBit_two_pow_add_gt q, decide_eq_false (by omega), Bool.xor_false]
  · subst q
    rw [Nat.testBit_two_pow_add_eq, decide_eq_true rfl, Bool.xor_true]
  · have h1 : r < 2 ^ i := Nat.lt_of_lt_of_le h (Nat.pow_le_pow_right (by decide) (by omega))
    have h2 : 2 ^ 63 + r < 2 ^ i := Nat.lt_of_lt_of_le (show 2 ^ 63 + r < 2 ^ 64 by omega) (Nat.pow_le_pow_right (by decide) (by omega))
    rw [Nat.testBit_lt_two_pow h1, Nat.testBit_lt_two_pow h2, decide_eq_false (by omega)]; rfl
theorem negN_eq {b : Nat} (hb : b < 18446744073709551616) : negN b = if b < 9223372036854775808 then b + 9223372036854775808 else b - 9223372036854775808 := by
  unfold negN
  split
  · rename_i h
    rw [xor_top h, Nat.add_comm]
  · rename_i h
    obtain ⟨r, hr⟩ : ∃ r, r = b - 9223372036854775808 := ⟨_, rfl⟩
    have e : b = 2 ^ 63 + r := by omega
    have hr2 : r < 2 ^ 63 := by omega
    have k : (2 ^ 63 + r) ^^^ 2 ^ 63 = r := by rw [← xor_top hr2, Nat.xor_assoc, Nat.xor_self, Nat.xor_zero]
    rw [← hr, e]; exact k
theorem negN_lt {b : Nat} (hb : b < 18446744073709551616) : negN b < 18446744073709551616 := by
  rw [negN_eq hb]; split <;> omega
theorem negN_negN (b : Nat) : negN (negN b) = b := by
  unfold negN
  rw [Nat.xor_assoc, Nat.xor_self, Nat.xor_zero]
theorem isNan_neg {b : Nat} (hb : b < 18446744073709551616) : isNan (negN b) = isNan b := by
  rw [negN_eq hb]
  unfold isNan topW
  split
  · rw [Nat.add_mod_right]
  · rw [show (b - 9223372036854775808) % 9223372036854775808 = b % 9223372036854775808 by omega]
theorem key_neg {b : Nat} (hb : b < 18446744073709551616) : key (negN b) = -key b := by
  rw [negN_eq hb]
  rcases Nat.lt_or_ge b 9223372036854775808 with q | q
  · rw [if_pos q, key_low q, key_high (by omega) (by omega)]; omega
  · rw [if_neg (by omega), key_high q hb, key_low (by omega)]; omega
theorem kind_neg {b : Nat} (hb : b < 18446744073709551616) (hn : isNan b = false) : kindO (negN b) = 7 - kindO b := by
  unfold kindO
  rw [isNan_neg hb, hn, key_neg hb]
  simp only [Bool.false_eq_true, if_false]
  have ht : (negN b = topW) ↔ b = 0 := by rw [negN_eq hb]; unfold topW; split <;> omega
  have kk : key b = 0 → b = 0 ∨ b = topW := by
    rcases Nat.lt_or_ge b 9223372036854775808 with q | q
    · rw [key_low q]; omega
    · rw [key_high q hb]; unfold topW; omega
  have k0 : key topW = 0 := by decide
  unfold mostW
  by_cases h1 : key b < -9218868437227405311
  · rw [if_pos h1, if_neg (by omega), if_neg (by omega), if_pos (by omega)]; rfl
  · by_cases h2 : key b < 0
    · rw [if_neg h1, if_pos h2, if_neg (by omega), if_neg (by omega), if_neg (by omega), if_pos (by omega)]; rfl
    · by_cases h3 : 9218868437227405311 < key b
      · rw [if_neg h1, if_neg h2, if_pos h3, if_pos (by omega)]; rfl
      · by_cases h4 : 0 < key b
        · rw [if_neg h1, if_neg h2, if_neg h3, if_pos h4, if_neg (by omega), if_pos (by omega)]; rfl
        · rw [if_neg h1, if_neg h2, if_neg h3, if_neg h4, if_neg (by omega), if_neg (by omega), if_neg (by omega), if_neg (by omega)]
          by_cases h5 : b = topW
          · rw [if_pos h5, if_neg (by rw [ht, h5]; decide)]; rfl
          · rw [if_neg h5, if_pos (ht.2 (by rcases kk (by omega) with q | q; exact q; exact absurd q h5))]; rfl
theorem ltB_neg {a b : Nat} (ha : a < 18446744073709551616) (hb : b < 18446744073709551616) : ltB (negN a) (negN b) = ltB b a := by
  unfold ltB
  rw [isNan_neg ha, isNan_neg hb, key_neg ha, key_neg hb, Bool.and_comm (!isNan a)]
  congr 1
  rw [Bool.eq_iff_iff, decide_eq_true_iff, decide_eq_true_iff]; omega
theorem total_neg {a b : Nat} (ha : a < 18446744073709551616) (hb : b < 18446744073709551616) (na : isNan a = false) (nb : isNan b = false) : totalO (negN a) (negN b) = -totalO a b := by
  unfold totalO
  rw [kind_neg ha na, kind_neg hb nb, ltB_neg ha hb, ltB_neg hb ha]
  by_cases h1 : kindO a < kindO b
  · rw [if_pos h1, if_neg (by omega), if_pos (by omega)]; rfl
  · by_cases h2 : kindO b < kindO a
    · rw [if_neg h1, if_pos h2, if_pos (by omega)]
    · rw [if_neg h1, if_neg h2, if_neg (by omega), if_neg (by omega)]
      cases h3 : ltB a b with
      | true => rw [ltB_asymm h3]; rfl
      | false => cases h4 : ltB b a <;> rfl
theorem total_zero {a b : Nat} (ha : a < 18446744073709551616) (hb : b < 18446744073709551616) (na : isNan a = false) (nb : isNan b = false) (h : totalO a b = 0) : a = b := by
  unfold totalO at h
  by_cases h1 : kindO a < kindO b
  · rw [if_pos h1] at h; cases h
  · by_cases h2 : kindO b < kindO a
    · rw [if_neg h1, if_pos h2] at h; cases h
    · rw [if_neg h1, if_neg h2] at h
      cases h3 : ltB a b with
      | true => rw [h3] at h; cases h
      | false =>
        cases h4 : ltB b a with
        | true => rw [h3, h4] at h; cases h
        | false =>
          have hk : kindO a = kindO b := by omega
          unfold ltB at h3 h4
          rw [na, nb] at h3 h4
          simp only [Bool.not_false, Bool.and_true, Bool.true_and, decide_eq_false_iff_not] at h3 h4
          have he : key a = key b := by omega
          rcases Nat.lt_or_ge a 9223372036854775808 with q | q
          · rcases Nat.lt_or_ge b 9223372036854775808 with p | p
            · rw [key_low q, key_low p] at he; omega
            · rw [key_low q, key_high p hb] at he
              have e1 : a = 0 := by omega
              have e2 : b = topW := by unfold topW; omega
              subst e1 e2; revert hk; decide
          · rcases Nat.lt_or_ge b 9223372036854775808 with p | p
            · rw [key_low p, key_high q ha] at he
              have e1 : b = 0 := by omega
              have e2 : a = topW := by unfold topW; omega
              subst e1 e2; revert hk; decide
            · rw [key_high q ha, key_high p hb] at he; omega
theorem key_0 : key 0 = 0 := by rw [key_low (by omega)]; rfl
theorem key_most : key 9218868437227405311 = 9218868437227405311 := by rw [key_low (by omega)]; omega
theorem key_least : key 18442240474082181119 = -9218868437227405311 := by rw [key_high (by omega) (by omega)]; omega
theorem nan_0 : isNan 0 = false := by rw [nan_low (by omega), decide_eq_false_iff_not]; omega
theorem nan_most : isNan 9218868437227405311 = false := by rw [nan_low (by omega), decide_eq_false_iff_not]; omega
theorem nan_least : isNan 18442240474082181119 = false := by rw [nan_high (by omega) (by omega), decide_eq_false_iff_not]; omega
theorem lt_low {b : Nat} (hn : isNan b = false) : (FloatKind.f64.format.order b 18442240474082181119 == some Ordering.lt) = decide (key b < -mostW) := by
  rw [lt_spell]; unfold ltB mostW; rw [nan_least, key_least, hn]; rfl
theorem lt_null {b : Nat} (hn : isNan b = false) : (FloatKind.f64.format.order b 0 == some Ordering.lt) = decide (key b < 0) := by
  rw [lt_spell]; unfold ltB; rw [nan_0, key_0, hn]; rfl
theorem gt_high {b : Nat} (hn : isNan b = false) : (FloatKind.f64.format.order b 9218868437227405311 == some Ordering.gt) = decide (mostW < key b) := by
  rw [gt_spell]; unfold ltB mostW; rw [nan_most, key_most, hn]; rfl
theorem gt_null {b : Nat} (hn : isNan b = false) : (FloatKind.f64.format.order b 0 == some Ordering.gt) = decide (0 < key b) := by
  rw [gt_spell]; unfold ltB; rw [nan_0, key_0, hn]; rfl
theorem kindO_of {b : Nat} (hn : isNan b = false) : kindO b = if key b < -mostW then 1 else if key b < 0 then 2 else if mostW < key b then 6 else if 0 < key b then 5 else if b = topW then 3 else 4 := by
  unfold kindO
  rw [hn]
  simp only [Bool.false_eq_true, if_false]
theorem top_yes {b : Nat} (h : b = topW) : ((b : Int) == 9223372036854775808) = true := beq_iff_eq.2 (by unfold topW at h; omega)
theorem top_no {b : Nat} (h : ¬ b = topW) : ((b : Int) == 9223372036854775808) = false := beq_false_of_ne (by unfold topW at h; omega)
end Go.Proofs.Ytgiegfgoglhnoaa
