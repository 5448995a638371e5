/- How many bits of 64 are 1: the sums of halves, plain. No program in sight, no conditions beside those stated. -/
import Derived.Test.YtfbdnjmljdfjjaaDoorBitL
import Derived.Laws.Bits128
namespace Go.Proofs.YtfbdnjmljdfjjaaDoor
open Go.RowKit
set_option linter.unusedVariables false
set_option linter.unusedSimpArgs false
theorem land_split (a b M m : Nat) (hb : b < 256) (hm : m < 256) : (256 * a + b) &&& (256 * M + m) = 256 * (a &&& M) + (b &&& m) := by
  have hbm : b &&& m < 256 := Nat.lt_of_le_of_lt Nat.and_le_left hb
  apply Nat.eq_of_testBit_eq
  intro j
  have e := fun (x y : Nat) (hy : y < 256) => Nat.testBit_two_pow_mul_add (i := 8) x (b := y) (by simpa using hy) j
  simp only [show (2 : Nat) ^ 8 = 256 by decide] at e
  rw [Nat.testBit_and, e _ _ hb, e _ _ hm, e _ _ hbm]
  split
  · rw [Nat.testBit_and]
  · rw [Nat.testBit_and]
/-- A byte, so many times. -/
def rep8 (m : Nat) : Nat → Nat
  | 0 => 0
  | k + 1 => 256 * rep8 m k + m
def p1 (b : Nat) : Nat := (b / 2 &&& 85) + (b &&& 85)
def p2 (b : Nat) : Nat := (b / 4 &&& 51) + (b &&& 51)
def p3 (b : Nat) : Nat := (b / 16 + b) &&& 15
def pc (b : Nat) : Nat := p3 (p2 (p1 b))
def q1 (k x : Nat) : Nat := (x / 2 &&& rep8 85 k) + (x &&& rep8 85 k)
def q2 (k x : Nat) : Nat := (x / 4 &&& rep8 51 k) + (x &&& rep8 51 k)
def q3 (k x : Nat) : Nat := (x / 16 + x) &&& rep8 15 k
theorem f1_lt : ∀ b : Fin 256, p1 b.val < 256 ∧ (128 + b.val / 2) &&& 85 = b.val / 2 &&& 85 := by decide +kernel
theorem f2_lt : ∀ b : Fin 256, p2 (p1 b.val) < 256 ∧ p2 (p1 b.val) % 16 ≤ 4 ∧ p2 (p1 b.val) / 16 ≤ 4 := by decide +kernel
theorem f2_hi : ∀ b : Fin 256, (64 + b.val / 4) &&& 51 = b.val / 4 &&& 51 ∧ (128 + b.val / 4) &&& 51 = b.val / 4 &&& 51 ∧ (192 + b.val / 4) &&& 51 = b.val / 4 &&& 51 := by decide +kernel
theorem f3_hi : ∀ a : Fin 5, ∀ c : Fin 256, c.val % 16 ≤ 4 → c.val / 16 ≤ 4 → (16 * a.val + c.val / 16 + c.val) &&& 15 = p3 c.val := by decide +kernel
theorem pc_eq : ∀ b : Fin 256, pc b.val = ((List.range 8).filter (fun t => b.val.testBit t)).length ∧ pc b.val ≤ 8 := by decide +kernel
theorem q1_step (k a b : Nat) (hb : b < 256) : q1 (k + 1) (256 * a + b) = 256 * q1 k a + p1 b := by
  unfold q1
  show ((256 * a + b) / 2 &&& (256 * rep8 85 k + 85)) + ((256 * a + b) &&& (256 * rep8 85 k + 85)) = _
  rw [show (256 * a + b) / 2 = 256 * (a / 2) + (a % 2 * 128 + b / 2) by omega, land_split _ _ _ _ (by omega) (by decide), land_split _ _ _ _ hb (by decide)]
  have h := (f1_lt ⟨b, hb⟩).2
  have e : (a % 2 * 128 + b / 2) &&& 85 = b / 2 &&& 85 := by
    rcases Nat.mod_two_eq_zero_or_one a with q | q
    · rw [q, Nat.zero_mul, Nat.zero_add]
    · rw [q, Nat.one_mul]; exact h
  rw [e]
  unfold p1
  generalize b / 2 &&& 85 = u
  generalize b &&& 85 = v
  generalize a / 2 &&& rep8 85 k = u'
  generalize a &&& rep8 85 k = v'
  omega
theorem q2_step (k a b : Nat) (hb : b < 256) : q2 (k + 1) (256 * a + b) = 256 * q2 k a + p2 b := by
  unfold q2
  show ((256 * a + b) / 4 &&& (256 * rep8 51 k + 51)) + ((256 * a + b) &&& (256 * rep8 51 k + 51)) = _
  rw [show (256 * a + b) / 4 = 256 * (a / 4) + (a % 4 * 64 + b / 4) by omega, land_split _ _ _ _ (by omega) (by decide), land_split _ _ _ _ hb (by decide)]
  obtain ⟨h1, h2, h3⟩ := f2_hi ⟨b, hb⟩
  have e : (a % 4 * 64 + b / 4) &&& 51 = b / 4 &&& 51 := by
    rcases (show a % 4 = 0 ∨ a % 4 = 1 ∨ a % 4 = 2 ∨ a % 4 = 3 by omega) with q | q | q | q
    · rw [q, Nat.zero_mul, Nat.zero_add]
    · rw [q]; exact h1
    · rw [q]; exact h2
    · rw [q]; exact h3
  rw [e]
  unfold p2
  generalize b / 4 &&& 51 = u
  generalize b &&& 51 = v
  generalize a / 4 &&& rep8 51 k = u'
  generalize a &&& rep8 51 k = v'
  omega
theorem q3_step (k a b : Nat) (hb : b < 256) (h1 : b % 16 ≤ 4) (h2 : b / 16 ≤ 4) (ha : a % 16 ≤ 4) : q3 (k + 1) (256 * a + b) = 256 * q3 k a + p3 b := by
  unfold q3
  show ((256 * a + b) / 16 + (256 * a + b)) &&& (256 * rep8 15 k + 15) = _
  rw [show (256 * a + b) / 16 + (256 * a + b) = 256 * (a / 16 + a) + (16 * (a % 16) + b / 16 + b) by omega, land_split _ _ _ _ (by omega) (by decide)]
  have := f3_hi ⟨a % 16, by omega⟩ ⟨b, hb⟩ h1 h2
  rw [show (16 * (a % 16) + b / 16 + b) &&& 15 = p3 b from this]
def qq (k x : Nat) : Nat := q3 k (q2 k (q1 k x))
theorem q_zero (x : Nat) : q1 0 x = 0 ∧ q2 0 x = 0 ∧ q3 0 x = 0 := by
  unfold q1 q2 q3
  exact ⟨by simp [rep8], by simp [rep8], by simp [rep8]⟩
theorem q2_low : ∀ (k x : Nat), q2 k (q1 k x) % 16 ≤ 4
  | 0, x => by rw [(q_zero _).2.1]; decide
  | k + 1, x => by
    have hb : x % 256 < 256 := Nat.mod_lt _ (by decide)
    have h := f1_lt ⟨x % 256, hb⟩
    have h2 := f2_lt ⟨x % 256, hb⟩
    rw [show x = 256 * (x / 256) + x % 256 by omega, q1_step _ _ _ hb, q2_step _ _ _ h.1]
    have := h2.2.1
    dsimp only at this
    generalize p2 (p1 (x % 256)) = u at *
    generalize q2 k (q1 k (x / 256)) = v at *
    omega
theorem qq_step (k x : Nat) : qq (k + 1) x = 256 * qq k (x / 256) + pc (x % 256) := by
  have hb : x % 256 < 256 := Nat.mod_lt _ (by decide)
  have h := f1_lt ⟨x % 256, hb⟩
  have h2 := f2_lt ⟨x % 256, hb⟩
  unfold qq pc
  conv => lhs; rw [show x = 256 * (x / 256) + x % 256 by omega]
  rw [q1_step _ _ _ hb, q2_step _ _ _ h.1, q3_step _ _ _ h2.1 h2.2.1 h2.2.2 (q2_low _ _)]
def popK (k x : Nat) : Nat := ((List.range (8 * k)).filter (fun t => x.testBit t)).length
theorem popK_step (k x : Nat) : popK (k + 1) x = pc (x % 256) + popK k (x / 256) := by
  have hb : x % 256 < 256 := Nat.mod_lt _ (by decide)
  rw [(pc_eq ⟨x % 256, hb⟩).1]
  unfold popK
  rw [show 8 * (k + 1) = 8 + 8 * k by omega, List.range_add, List.filter_append, List.length_append, List.filter_map, List.length_map]
  congr 1
  · congr 1
    apply List.filter_congr
    intro t ht
    rw [List.mem_range] at ht
    show x.testBit t = (x % 2 ^ 8).testBit t
    rw [Nat.testBit_mod_two_pow, decide_eq_true ht, Bool.true_and]
  · congr 1
    apply List.filter_congr
    intro t _
    show x.testBit (8 + t) = (x / 256).testBit t
    rw [show 256 = 2 ^ 8 by decide, Nat.testBit_div_two_pow, Nat.add_comm]
/-- The last three sums. -/
def fold8 (y : Nat) : Nat := (let a := (y + y / 256) % 18446744073709551616; let b := (a + a / 65536) % 18446744073709551616; (b + b / 4294967296) % 18446744073709551616)
theorem fold8_step {y A1 A2 A3 A4 A5 A6 A7 c0 c1 c2 c3 c4 c5 c6 : Nat} (e0 : y = 256 * A1 + c0) (e1 : A1 = 256 * A2 + c1) (e2 : A2 = 256 * A3 + c2) (e3 : A3 = 256 * A4 + c3) (e4 : A4 = 256 * A5 + c4) (e5 : A5 = 256 * A6 + c5) (e6 : A6 = 256 * A7 + c6)
    (h0 : c0 ≤ 8) (h1 : c1 ≤ 8) (h2 : c2 ≤ 8) (h3 : c3 ≤ 8) (h4 : c4 ≤ 8) (h5 : c5 ≤ 8) (h6 : c6 ≤ 8) (h7 : A7 ≤ 8) : fold8 y % 128 = c0 + c1 + c2 + c3 + c4 + c5 + c6 + A7 := by
  have b6 : A6 ≤ 2056 := by omega
  have b5 : A5 ≤ 526344 := by omega
  have b4 : A4 ≤ 134744072 := by omega
  have b3 : A3 ≤ 34494482440 := by omega
  have b2 : A2 ≤ 8830587504648 := by omega
  have b1 : A1 ≤ 2260630401189896 := by omega
  have b0 : y ≤ 578721382704613384 := by omega
  have d1 : (y + y / 256) % 18446744073709551616 = y + A1 := by
    have : y / 256 = A1 := by clear b1 b2 b3 b4 b5 b6 e1 e2 e3 e4 e5 e6; omega
    rw [this]; clear e0 e1 e2 e3 e4 e5 e6; omega
  have f1 : y = 65536 * A2 + (256 * c1 + c0) := by clear b0 b1 b2 b3 b4 b5 b6 e2 e3 e4 e5 e6 d1; omega
  have f2 : A1 = 65536 * A3 + (256 * c2 + c1) := by clear b0 b1 b2 b3 b4 b5 b6 e0 e3 e4 e5 e6 d1 f1; omega
  have d2 : (y + A1 + (y + A1) / 65536) % 18446744073709551616 = y + A1 + (A2 + A3) := by
    have : (y + A1) / 65536 = A2 + A3 := by clear b0 b1 b2 b3 b4 b5 b6 e0 e1 e2 e3 e4 e5 e6 d1; omega
    rw [this]; clear e0 e1 e2 e3 e4 e5 e6 d1 f1 f2; omega
  have g0 : y = 4294967296 * A4 + (16777216 * c3 + 65536 * c2 + 256 * c1 + c0) := by clear b0 b1 b2 b3 b4 b5 b6 e0 e1 e4 e5 e6 d1 d2 f2; omega
  have g1 : A1 = 4294967296 * A5 + (16777216 * c4 + 65536 * c3 + 256 * c2 + c1) := by clear b0 b1 b2 b3 b4 b5 b6 e0 e1 e2 e5 e6 d1 d2 f1 g0; omega
  have g2 : A2 = 4294967296 * A6 + (16777216 * c5 + 65536 * c4 + 256 * c3 + c2) := by clear b0 b1 b2 b3 b4 b5 b6 e0 e1 e6 d1 d2 f1 f2 g0 g1; omega
  have g3 : A3 = 4294967296 * A7 + (16777216 * c6 + 65536 * c5 + 256 * c4 + c3) := by clear b0 b1 b2 b3 b4 b5 b6 e0 e1 e2 d1 d2 f1 f2 g0 g1 g2; omega
  have d3 : (y + A1 + (A2 + A3)) / 4294967296 = A4 + A5 + A6 + A7 := by clear b0 b1 b2 b3 b4 b5 b6 e0 e1 e2 e3 e4 e5 e6 d1 d2 f1 f2; omega
  unfold fold8
  dsimp only
  rw [d1, d2, d3]
  have d4 : (y + A1 + (A2 + A3) + (A4 + A5 + A6 + A7)) % 18446744073709551616 = y + A1 + (A2 + A3) + (A4 + A5 + A6 + A7) := by clear e0 e1 e2 e3 e4 e5 e6 d1 d2 d3 f1 f2 g0 g1 g2 g3; omega
  rw [d4]
  clear d1 d2 d3 d4 f1 f2 g0 g1 g2 g3 b0 b1 b2 b3 b4 b5 b6
  omega
theorem pop_fold (x : Nat) (hx : x < 18446744073709551616) : fold8 (qq 8 x) % 128 = pop x := by
  have hp : pop x = popK 8 x := rfl
  have hz : ∀ y, popK 0 y = 0 := fun y => rfl
  have hq : ∀ y, qq 0 y = 0 := fun y => (q_zero _).2.2
  have hc : ∀ y, pc (y % 256) ≤ 8 := fun y => (pc_eq ⟨y % 256, Nat.mod_lt _ (by decide)⟩).2
  rw [hp]
  simp only [popK_step, hz, Nat.add_zero]
  rw [fold8_step (qq_step 7 x) (qq_step 6 _) (qq_step 5 _) (qq_step 4 _) (qq_step 3 _) (qq_step 2 _) (qq_step 1 _) (hc _) (hc _) (hc _) (hc _) (hc _) (hc _) (hc _) (by rw [qq_step 0, hq, Nat.mul_zero, Nat.zero_add]; exact hc _)]
  rw [qq_step 0, hq, Nat.mul_zero, Nat.zero_add]
  simp only [Nat.add_assoc]
theorem rep8_eq : rep8 85 8 = 6148914691236517205 ∧ rep8 51 8 = 3689348814741910323 ∧ rep8 15 8 = 1085102592571150095 := by decide +kernel
end Go.Proofs.YtfbdnjmljdfjjaaDoor
