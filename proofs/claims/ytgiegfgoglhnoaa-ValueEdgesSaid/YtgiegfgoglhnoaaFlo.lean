/- Floats, plain: how two words of 64 bits stand to each other, by sign and size. No program in sight, no conditions beside those stated. -/
import Derived.Laws.FloatArith
namespace Go.Proofs.Ytgiegfgoglhnoaa
set_option linter.unusedVariables false
set_option linter.unusedSimpArgs false
/-- The greatest size that is no NaN: infinity's. -/
def infW : Nat := 9218868437227405312
def topW : Nat := 9223372036854775808
def nanW : Nat := 9221120237041090560
def isNan (x : Nat) : Bool := decide (infW < x % topW)
def canon (x : Nat) : Nat := if isNan x = true then nanW else x
def key (x : Nat) : Int := if x / topW % 2 = 1 then -((x % topW : Nat) : Int) else ((x % topW : Nat) : Int)
def ordK (x y : Nat) : Option Ordering := if isNan x = true ∨ isNan y = true then none else some (compare (key x) (key y))
/-- A size as a whole number of least units. -/
def sizeV (r : Nat) : Nat := if r < 2 ^ 52 then r else (2 ^ 52 + r % 2 ^ 52) * 2 ^ (r / 2 ^ 52 - 1)
theorem sizeV_mono {r s : Nat} (h : r < s) : sizeV r < sizeV s := by
  have hB : 0 < 2 ^ 52 := by decide
  have e1 := Nat.div_add_mod r (2 ^ 52)
  have e2 := Nat.div_add_mod s (2 ^ 52)
  have l1 := Nat.mod_lt r hB
  have l2 := Nat.mod_lt s hB
  have hq : r / 2 ^ 52 ≤ s / 2 ^ 52 := Nat.div_le_div_right (Nat.le_of_lt h)
  unfold sizeV
  by_cases h1 : r < 2 ^ 52
  · rw [if_pos h1]
    by_cases h2 : s < 2 ^ 52
    · rw [if_pos h2]; exact h
    · rw [if_neg h2]
      have : 1 ≤ 2 ^ (s / 2 ^ 52 - 1) := Nat.one_le_two_pow
      calc r < 2 ^ 52 * 1 := by omega
        _ ≤ (2 ^ 52 + s % 2 ^ 52) * 2 ^ (s / 2 ^ 52 - 1) := Nat.mul_le_mul (by omega) this
  · have h2 : ¬ s < 2 ^ 52 := by omega
    rw [if_neg h1, if_neg h2]
    have p1 : 1 ≤ r / 2 ^ 52 := by
      rcases Nat.eq_zero_or_pos (r / 2 ^ 52) with q | q
      · rw [q] at e1; omega
      · exact q
    rcases Nat.lt_or_ge (r / 2 ^ 52) (s / 2 ^ 52) with q | q
    · have s1 : (2 ^ 52 + r % 2 ^ 52) * 2 ^ (r / 2 ^ 52 - 1) < 2 * 2 ^ 52 * 2 ^ (r / 2 ^ 52 - 1) := Nat.mul_lt_mul_of_pos_right (by omega) (Nat.two_pow_pos _)
      have s2 : 2 * 2 ^ 52 * 2 ^ (r / 2 ^ 52 - 1) = 2 ^ 52 * 2 ^ (r / 2 ^ 52) := by
        rw [Nat.mul_comm 2, Nat.mul_assoc, ← Nat.pow_succ']
        congr 2
        omega
      have s3 : 2 ^ (r / 2 ^ 52) ≤ 2 ^ (s / 2 ^ 52 - 1) := Nat.pow_le_pow_right (by decide) (by omega)
      have s4 : 2 ^ 52 * 2 ^ (r / 2 ^ 52) ≤ (2 ^ 52 + s % 2 ^ 52) * 2 ^ (s / 2 ^ 52 - 1) := Nat.mul_le_mul (by omega) s3
      omega
    · have q' : r / 2 ^ 52 = s / 2 ^ 52 := Nat.le_antisymm hq q
      rw [q'] at e1 ⊢
      exact Nat.mul_lt_mul_of_pos_right (by omega) (Nat.two_pow_pos _)
def sgnV (k : Int) : Int := if k < 0 then -(sizeV k.natAbs : Nat) else (sizeV k.natAbs : Nat)
theorem sizeV_pos {r : Nat} (h : 0 < r) : 0 < sizeV r := by
  have := sizeV_mono h
  omega
theorem sgnV_mono {a b : Int} (h : a < b) : sgnV a < sgnV b := by
  unfold sgnV
  by_cases ha : a < 0
  · rw [if_pos ha]
    by_cases hb : b < 0
    · rw [if_pos hb]
      have := sizeV_mono (show b.natAbs < a.natAbs by omega)
      omega
    · rw [if_neg hb]
      have := sizeV_pos (show 0 < a.natAbs by omega)
      omega
  · rw [if_neg ha, if_neg (by omega)]
    have := sizeV_mono (show a.natAbs < b.natAbs by omega)
    omega
theorem compare_of {a b c d : Int} (h1 : a < b ↔ c < d) (h2 : a = b ↔ c = d) : compare a b = compare c d := by
  show compareOfLessAndEq a b = compareOfLessAndEq c d
  unfold compareOfLessAndEq
  by_cases q : a < b
  · rw [if_pos q, if_pos (h1.1 q)]
  · rw [if_neg q, if_neg (fun x => q (h1.2 x))]
    by_cases p : a = b
    · rw [if_pos p, if_pos (h2.1 p)]
    · rw [if_neg p, if_neg (fun x => p (h2.2 x))]
theorem compare_sgnV (a b : Int) : compare (sgnV a) (sgnV b) = compare a b := by
  have m := @sgnV_mono
  rcases Int.lt_trichotomy a b with q | q | q
  · exact compare_of ⟨fun _ => q, fun _ => m q⟩ ⟨fun e => by have := m q; omega, fun e => by omega⟩
  · subst q; exact compare_of ⟨fun h => by omega, fun h => by omega⟩ ⟨fun _ => rfl, fun _ => rfl⟩
  · exact compare_of ⟨fun h => by have := m q; omega, fun h => by omega⟩ ⟨fun e => by have := m q; omega, fun e => by omega⟩
theorem compare_scale (a b : Int) (n : Nat) (h : 0 < n) : compare (a * (n : Int)) (b * (n : Int)) = compare a b := by
  have hn : (0 : Int) < n := by omega
  exact compare_of ⟨fun q => Int.lt_of_mul_lt_mul_right q (Int.le_of_lt hn), fun q => Int.mul_lt_mul_of_pos_right q hn⟩ ⟨fun q => Int.eq_of_mul_eq_mul_right (by omega) q, fun q => by rw [q]⟩
/-- Magnitude and place of a size that is finite. -/
def magW (r : Nat) : Nat := if r < 2 ^ 52 then r else 2 ^ 52 + r % 2 ^ 52
def offW (r : Nat) : Nat := if r < 2 ^ 52 then 0 else r / 2 ^ 52 - 1
theorem sizeV_eq (r : Nat) : sizeV r = magW r * 2 ^ offW r := by
  unfold sizeV magW offW
  split
  · simp
  · rfl
def negW (x : Nat) : Bool := x / topW % 2 == 1
theorem read_fin {x : Nat} (h : x % topW < infW) : Ieee.double.read x = .number (negW x) (magW (x % topW)) (-1074 + (offW (x % topW) : Nat)) := by
  unfold Ieee.Format.read
  have e1 : Ieee.double.signWeight = topW := by decide
  have e2 : Ieee.double.binade = 2 ^ 52 := by decide
  have e3 : Ieee.double.infRung = infW := by decide
  have e4 : Ieee.double.leastPlace = -1074 := by decide
  rw [e1, e2, e3, e4]
  unfold magW offW negW
  by_cases q : x % topW < 2 ^ 52
  · simp only [if_pos q]; rfl
  · simp only [if_neg q, if_pos h]
theorem read_inf {x : Nat} (h : x % topW = infW) : Ieee.double.read x = .infinity (negW x) := by
  unfold Ieee.Format.read
  have e1 : Ieee.double.signWeight = topW := by decide
  have e2 : Ieee.double.binade = 2 ^ 52 := by decide
  have e3 : Ieee.double.infRung = infW := by decide
  rw [e1, e2, e3, h]
  unfold negW
  simp only [if_neg (show ¬ infW < 2 ^ 52 by decide), Nat.lt_irrefl, if_false, if_true]
theorem read_nan {x : Nat} (h : infW < x % topW) : ∃ s t, Ieee.double.read x = .nan s t := by
  unfold Ieee.Format.read
  have e1 : Ieee.double.signWeight = topW := by decide
  have e2 : Ieee.double.binade = 2 ^ 52 := by decide
  have e3 : Ieee.double.infRung = infW := by decide
  rw [e1, e2, e3]
  have hi : 2 ^ 52 ≤ infW := by decide
  simp only [if_neg (show ¬ x % topW < 2 ^ 52 by omega), if_neg (show ¬ x % topW < infW by omega), if_neg (show ¬ x % topW = infW by omega)]
  exact ⟨_, _, rfl⟩
theorem signed_eq (s : Bool) (m k : Nat) : Ieee.signed s m k = (if s = true then -((m * 2 ^ k : Nat) : Int) else ((m * 2 ^ k : Nat) : Int)) := by
  unfold Ieee.signed
  rw [Nat.shiftLeft_eq]
theorem sgnV_key (x : Nat) : sgnV (key x) = if negW x = true then -((sizeV (x % topW) : Nat) : Int) else ((sizeV (x % topW) : Nat) : Int) := by
  unfold sgnV key negW
  by_cases q : x / topW % 2 = 1
  · rw [if_pos q]
    simp only [q, beq_self_eq_true, if_true]
    rcases Nat.eq_zero_or_pos (x % topW) with e | e
    · rw [e]; simp [sizeV]
    · rw [if_pos (by omega)]
      rw [show (-((x % topW : Nat) : Int)).natAbs = x % topW by omega]
  · rw [if_neg q]
    have q2 : (x / topW % 2 == 1) = false := by rw [beq_eq_false_iff_ne]; exact q
    simp only [q2, Bool.false_eq_true, if_false]
    rw [if_neg (by omega)]
    rw [Int.natAbs_natCast]
theorem scaled (s : Bool) (m i k d : Nat) (h : i = k + d) : (if s = true then -((m * 2 ^ i : Nat) : Int) else ((m * 2 ^ i : Nat) : Int)) = (if s = true then -((m * 2 ^ k : Nat) : Int) else ((m * 2 ^ k : Nat) : Int)) * ((2 ^ d : Nat) : Int) := by
  subst h
  rw [Nat.pow_add, ← Nat.mul_assoc]
  split
  · rw [Int.natCast_mul (m * 2 ^ k), Int.neg_mul]
  · rw [Int.natCast_mul (m * 2 ^ k)]
theorem cmp_lt {a b : Int} (h : a < b) : compare a b = .lt := by
  show compareOfLessAndEq a b = .lt
  unfold compareOfLessAndEq
  rw [if_pos h]
theorem cmp_gt {a b : Int} (h : b < a) : compare a b = .gt := by
  show compareOfLessAndEq a b = .gt
  unfold compareOfLessAndEq
  rw [if_neg (by omega), if_neg (by omega)]
theorem cmp_eq (a : Int) : compare a a = .eq := by
  show compareOfLessAndEq a a = .eq
  unfold compareOfLessAndEq
  rw [if_neg (by omega), if_pos rfl]
theorem order_eq (x y : Nat) : Ieee.double.order x y = ordK x y := by
  unfold Ieee.Format.order ordK
  by_cases hx : infW < x % topW
  · obtain ⟨s, t, e⟩ := read_nan hx
    rw [e, if_pos (Or.inl (by unfold isNan; rw [decide_eq_true_iff]; exact hx))]
    rfl
  · by_cases hy : infW < y % topW
    · obtain ⟨s, t, e⟩ := read_nan hy
      rw [e, if_pos (Or.inr (by unfold isNan; rw [decide_eq_true_iff]; exact hy))]
      cases Ieee.double.read x <;> rfl
    · have nx : isNan x = false := by unfold isNan; rw [decide_eq_false_iff_not]; exact hx
      have ny : isNan y = false := by unfold isNan; rw [decide_eq_false_iff_not]; exact hy
      rw [nx, ny, if_neg (by simp)]
      have kx : key x = if negW x = true then -((x % topW : Nat) : Int) else ((x % topW : Nat) : Int) := by
        unfold key negW; by_cases q : x / topW % 2 = 1 <;> simp [q]
      have ky : key y = if negW y = true then -((y % topW : Nat) : Int) else ((y % topW : Nat) : Int) := by
        unfold key negW; by_cases q : y / topW % 2 = 1 <;> simp [q]
      have ip : 0 < infW := by decide
      rcases Nat.lt_or_ge (x % topW) infW with qx | qx
      · rw [read_fin qx]
        rcases Nat.lt_or_ge (y % topW) infW with qy | qy
        · rw [read_fin qy]
          unfold Ieee.Datum.order
          simp only []
          refine congrArg some ?_
          rw [← compare_sgnV (key x) (key y), sgnV_key, sgnV_key, signed_eq, signed_eq, sizeV_eq, sizeV_eq]
          generalize offW (x % topW) = i at *
          generalize offW (y % topW) = j at *
          generalize magW (x % topW) = m at *
          generalize magW (y % topW) = n at *
          have hi : ((-1074 + (i : Int)) - min (-1074 + (i : Int)) (-1074 + (j : Int))).toNat = i - min i j := by omega
          have hj : ((-1074 + (j : Int)) - min (-1074 + (i : Int)) (-1074 + (j : Int))).toNat = j - min i j := by omega
          rw [hi, hj, scaled (negW x) m i (i - min i j) (min i j) (by omega), scaled (negW y) n j (j - min i j) (min i j) (by omega), compare_scale _ _ _ (Nat.two_pow_pos _)]
        · have qy' : y % topW = infW := by omega
          rw [read_inf qy']
          show some (if negW y = true then Ordering.gt else Ordering.lt) = _
          refine congrArg some ?_
          rw [kx, ky, qy']
          cases negW x <;> cases negW y
          · exact (cmp_lt (by simp; omega)).symm
          · exact (cmp_gt (by simp; omega)).symm
          · exact (cmp_lt (by simp; omega)).symm
          · exact (cmp_gt (by simp; omega)).symm
      · have qx' : x % topW = infW := by omega
        rw [read_inf qx']
        rcases Nat.lt_or_ge (y % topW) infW with qy | qy
        · rw [read_fin qy]
          show some (if negW x = true then Ordering.lt else Ordering.gt) = _
          refine congrArg some ?_
          rw [kx, ky, qx']
          cases negW x <;> cases negW y
          · exact (cmp_gt (by simp; omega)).symm
          · exact (cmp_gt (by simp; omega)).symm
          · exact (cmp_lt (by simp; omega)).symm
          · exact (cmp_lt (by simp; omega)).symm
        · have qy' : y % topW = infW := by omega
          rw [read_inf qy']
          show some (compare (negW y).toNat (negW x).toNat) = _
          refine congrArg some ?_
          rw [kx, ky, qx', qy']
          cases negW x <;> cases negW y
          · exact (cmp_eq _).symm
          · exact (cmp_gt (by simp; omega)).symm
          · exact (cmp_lt (by simp; omega)).symm
          · exact (cmp_eq _).symm
end Go.Proofs.Ytgiegfgoglhnoaa
