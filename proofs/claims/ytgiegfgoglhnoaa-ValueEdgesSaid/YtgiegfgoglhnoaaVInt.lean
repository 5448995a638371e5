/- Integers of 64 bits, by their bits and by their numbers. No program in sight, no conditions beside those stated. -/
import Derived.WalkKit
import Derived.IntWalk
namespace Go.Proofs.Ytgiegfgoglhnoaa
open Go.RowKit
set_option linter.unusedVariables false
set_option linter.unusedSimpArgs false
def uM (i : Int) : Int := i % 18446744073709551616
theorem u64_uM (i : Int) : IntKind.u64.wrap i = uM i := by
  unfold uM
  simp [IntKind.wrap, IntKind.bits, IntKind.signed]
def U64 (A : Int) : Prop := 0 ≤ A ∧ A < 18446744073709551616
theorem uM_in (i : Int) : U64 (uM i) := by unfold U64 uM; omega
theorem uM_of {A : Int} (h : U64 A) : uM A = A := by unfold U64 at h; unfold uM; omega
theorem wrap_uM (i : Int) : wrap64 (uM i) = wrap64 i := by unfold wrap64 uM; omega
theorem uM_wrap (i : Int) : uM (wrap64 i) = uM i := by unfold wrap64 uM; omega
theorem wrap_bd (i : Int) : -9223372036854775808 ≤ wrap64 i ∧ wrap64 i ≤ 9223372036854775807 := by unfold wrap64; omega
theorem wrap_of {i : Int} (h : -9223372036854775808 ≤ i ∧ i ≤ 9223372036854775807) : wrap64 i = i := by unfold wrap64; omega
theorem uM_mul {A B : Int} (ha : U64 A) (hb : U64 B) : uM (wrap64 A * wrap64 B) = uM (A * B) := by
  unfold uM
  rw [Int.mul_emod (wrap64 A), Int.mul_emod A]
  have e : ∀ {X : Int}, U64 X → wrap64 X % 18446744073709551616 = X % 18446744073709551616 := fun {X} h => by unfold wrap64; omega
  rw [e ha, e hb]
theorem uM_add {A B : Int} : uM (wrap64 A + wrap64 B) = uM (A + B) := by unfold uM wrap64; omega
theorem uM_sub {A B : Int} : uM (wrap64 A - wrap64 B) = uM (A - B) := by unfold uM wrap64; omega
def tI : Bool → Int
  | true => 1
  | false => 0
def intO (op A B : Int) : Int :=
  if op = 0 then uM (A + B) else if op = 1 then uM (A - B) else if op = 2 then uM (A * B)
  else if op = 3 then uM ((wrap64 A).tdiv (wrap64 B)) else if op = 4 then uM ((wrap64 A).tmod (wrap64 B))
  else if op = 5 then bits .and .u64 A B else if op = 6 then bits .or .u64 A B else if op = 7 then bits .xor .u64 A B
  else if op = 8 then uM (A * 2 ^ (B % 64).toNat) else if op = 9 then uM (wrap64 A / 2 ^ (B % 64).toNat)
  else if op = 10 then tI (decide (wrap64 A < wrap64 B)) else tI (A == B)
/-- Is it divided by nought? -/
def intBad (op B : Int) : Bool := (op == 3 || op == 4) && B == 0
theorem and63 {B : Int} (h : U64 B) : bits .and .u64 B 63 = B % 64 := by
  obtain ⟨h1, h2⟩ := h
  obtain ⟨b, rfl⟩ := Int.eq_ofNat_of_zero_le h1
  rw [show (63 : Int) = ((63 : Nat) : Int) from rfl, u64_and_nat b 63 (by omega) (by omega)]
  rw [show 63 = 2 ^ 6 - 1 from rfl, Nat.and_two_pow_sub_one_eq_mod]
  rfl
theorem cnt_bd {B : Int} : 0 ≤ B % 64 ∧ B % 64 < 64 := by omega
theorem run_shl {P : Program} (A B : Int) (w : World) : (Op.shift .shl .u64 A .u64 (B % 64)).run P w = .ok (.int .u64 (uM (A * 2 ^ (B % 64).toNat))) w := by
  unfold Op.shift
  rw [if_neg (by omega)]
  have e : min ((B % 64).toNat) IntKind.u64.bits = (B % 64).toNat := Nat.min_eq_left (by show (B % 64).toNat ≤ 64; omega)
  rw [e]
  show Sem.run P (pure (Value.int .u64 (IntKind.u64.wrap (A * 2 ^ (B % 64).toNat)))) w = _
  rw [u64_uM]; rfl
theorem run_shr {P : Program} (A B : Int) (w : World) : (Op.shift .shr .i64 A .u64 (B % 64)).run P w = .ok (.int .i64 (A / 2 ^ (B % 64).toNat)) w := by
  unfold Op.shift
  rw [if_neg (by omega)]
  have e : min ((B % 64).toNat) IntKind.i64.bits = (B % 64).toNat := Nat.min_eq_left (by show (B % 64).toNat ≤ 64; omega)
  rw [e]
  show Sem.run P (pure (Value.int .i64 (A.fdiv (2 ^ (B % 64).toNat)))) w = _
  rw [Int.fdiv_eq_ediv_of_nonneg _ (Int.pow_nonneg (by decide))]; rfl
theorem shl_step (A : Int) (k : Nat) : uM (uM (A * 2 ^ k) * 2) = uM (A * 2 ^ (k + 1)) := by
  rw [Int.pow_succ, ← Int.mul_assoc]
  generalize A * 2 ^ k = t
  unfold uM; omega
theorem pow_pos2 (k : Nat) : (0 : Int) < 2 ^ k := Int.pow_pos (by decide)
theorem sar_bd {s : Int} (h : -9223372036854775808 ≤ s ∧ s ≤ 9223372036854775807) (k : Nat) : -9223372036854775808 ≤ s / 2 ^ k ∧ s / 2 ^ k ≤ 9223372036854775807 := by
  have hp := pow_pos2 k
  refine ⟨?_, ?_⟩
  · rw [Int.le_ediv_iff_mul_le hp]
    have : (-9223372036854775808 : Int) * 2 ^ k ≤ -9223372036854775808 * 1 := Int.mul_le_mul_of_nonpos_left (by omega) (by omega)
    omega
  · rcases (show s < 0 ∨ 0 ≤ s by omega) with q | q
    · have : s / 2 ^ k < 0 := Int.ediv_neg_of_neg_of_pos q hp
      omega
    · have := Int.ediv_le_self (2 ^ k) q
      omega
theorem sar_step {s : Int} (h : -9223372036854775808 ≤ s ∧ s ≤ 9223372036854775807) (k : Nat) : uM (s / 2 ^ k) / 2 + uM (s / 2 ^ k) / 9223372036854775808 * 9223372036854775808 = uM (s / 2 ^ (k + 1)) := by
  rw [Int.pow_succ, ← Int.ediv_ediv_of_nonneg (Int.le_of_lt (pow_pos2 k))]
  obtain ⟨b1, b2⟩ := sar_bd h k
  generalize s / 2 ^ k = t at *
  unfold uM; omega
def sizeS (A : Int) : Int := if wrap64 A < 0 then -wrap64 A else wrap64 A
theorem size_low {A : Int} (h : U64 A) (h2 : A < 9223372036854775808) : wrap64 A = A := by unfold U64 at h; unfold wrap64; omega
theorem size_high {A : Int} (h : U64 A) (h2 : 9223372036854775808 ≤ A) : wrap64 A = A - 18446744073709551616 := by unfold U64 at h; unfold wrap64; omega
theorem div_eq {A B : Int} (ha : U64 A) (hb : U64 B) (h0 : B ≠ 0) :
    uM ((wrap64 A).tdiv (wrap64 B)) = (if (decide (wrap64 A < 0) != decide (wrap64 B < 0)) = true then uM (0 - sizeS A / sizeS B) else sizeS A / sizeS B) ∧
    uM ((wrap64 A).tmod (wrap64 B)) = (if wrap64 A < 0 then uM (0 - sizeS A % sizeS B) else sizeS A % sizeS B) ∧ 0 < sizeS B ∧ 0 ≤ sizeS A ∧ sizeS A ≤ 9223372036854775808 ∧ sizeS B ≤ 9223372036854775808 := by
  obtain ⟨x1, x2⟩ := wrap_bd A
  obtain ⟨y1, y2⟩ := wrap_bd B
  have hy : wrap64 B ≠ 0 := by unfold U64 at hb; unfold wrap64; omega
  unfold sizeS
  generalize wrap64 A = x at *
  generalize wrap64 B = y at *
  have nn : ∀ p q : Int, 0 ≤ p → 0 < q → p ≤ 9223372036854775808 → 0 ≤ p / q ∧ p / q ≤ 9223372036854775808 ∧ 0 ≤ p % q ∧ p % q ≤ 9223372036854775808 := fun p q h1 h2 h3 => by
    have a1 := Int.ediv_nonneg h1 (Int.le_of_lt h2)
    have a2 := Int.ediv_le_self q h1
    have a3 := Int.emod_nonneg p (show q ≠ 0 by omega)
    have e := Int.mul_ediv_add_emod p q
    have m := Int.mul_nonneg (Int.le_of_lt h2) a1
    generalize q * (p / q) = z at *
    omega
  have u0 : ∀ q : Int, 0 ≤ q → q ≤ 9223372036854775808 → uM q = q := fun q h1 h2 => by unfold uM; omega
  rcases (show 0 ≤ x ∨ x < 0 by omega) with hx | hx
  · have hx' : ¬ x < 0 := by omega
    rw [decide_eq_false hx']
    simp only [hx', if_false]
    rcases (show 0 < y ∨ y < 0 by omega) with hy' | hy'
    · obtain ⟨n1, n2, n3, n4⟩ := nn x y hx hy' (by omega)
      have hy2 : ¬ y < 0 := by omega
      rw [decide_eq_false hy2]
      simp only [hy2, if_false]
      rw [Int.tdiv_eq_ediv_of_nonneg hx, Int.tmod_eq_emod_of_nonneg hx, u0 _ n1 n2, u0 _ n3 n4]
      exact ⟨rfl, rfl, hy', hx, by omega, by omega⟩
    · obtain ⟨z, rfl⟩ : ∃ z, y = -z := ⟨-y, by omega⟩
      obtain ⟨n1, n2, n3, n4⟩ := nn x z hx (by omega) (by omega)
      rw [decide_eq_true hy']
      simp only [hy', if_true]
      rw [Int.tdiv_neg, Int.tmod_neg, Int.neg_neg, Int.tdiv_eq_ediv_of_nonneg hx, Int.tmod_eq_emod_of_nonneg hx, u0 _ n3 n4]
      exact ⟨by rw [if_pos (by rfl), Int.zero_sub], rfl, by omega, hx, by omega, by omega⟩
  · obtain ⟨v, rfl⟩ : ∃ v, x = -v := ⟨-x, by omega⟩
    rw [decide_eq_true hx]
    simp only [hx, if_true]
    rw [Int.neg_neg, Int.neg_tdiv, Int.neg_tmod]
    rcases (show 0 < y ∨ y < 0 by omega) with hy' | hy'
    · obtain ⟨n1, n2, n3, n4⟩ := nn v y (by omega) hy' (by omega)
      have hy2 : ¬ y < 0 := by omega
      rw [decide_eq_false hy2]
      simp only [hy2, if_false]
      rw [Int.tdiv_eq_ediv_of_nonneg (by omega), Int.tmod_eq_emod_of_nonneg (by omega)]
      exact ⟨by rw [if_pos (by rfl), Int.zero_sub], by rw [Int.zero_sub], hy', by omega, by omega, by omega⟩
    · obtain ⟨z, rfl⟩ : ∃ z, y = -z := ⟨-y, by omega⟩
      obtain ⟨n1, n2, n3, n4⟩ := nn v z (by omega) (by omega) (by omega)
      rw [decide_eq_true hy']
      simp only [hy', if_true]
      rw [Int.tdiv_neg, Int.tmod_neg, Int.neg_neg, Int.neg_neg, Int.tdiv_eq_ediv_of_nonneg (by omega), Int.tmod_eq_emod_of_nonneg (by omega), u0 _ n1 n2]
      exact ⟨by rw [if_neg (by simp)], by rw [Int.zero_sub], by omega, by omega, by omega, by omega⟩
end Go.Proofs.Ytgiegfgoglhnoaa
