/- The plain mathematics of layer 6 (link): the mix of 64 bits, the mask, a link and what is read off it, over Int; no program in sight. No conditions. -/
import Derived.WalkKit
namespace Go.Proofs.Ytgbbnmjfkhconaa
open Go.RowKit
set_option linter.unusedVariables false
set_option linter.unusedSimpArgs false
def m1 (x : Nat) : Nat := (x ^^^ x / 1073741824) * 13787848793156543929 % 18446744073709551616
def m2 (x : Nat) : Nat := (x ^^^ x / 134217728) * 10723151780598845931 % 18446744073709551616
def m3 (x : Nat) : Nat := x ^^^ x / 2147483648
def mixN (x : Nat) : Nat := m3 (m2 (m1 x))
def mixI (x : Int) : Int := ((mixN x.toNat : Nat) : Int)
theorem m1_lt (x : Nat) : m1 x < 18446744073709551616 := Nat.mod_lt _ (by decide)
theorem m2_lt (x : Nat) : m2 x < 18446744073709551616 := Nat.mod_lt _ (by decide)
theorem m3_lt (x : Nat) (h : x < 18446744073709551616) : m3 x < 18446744073709551616 := by
  have h' : x < 2 ^ 64 := h
  exact Nat.xor_lt_two_pow h' (by omega)
theorem mixN_lt (x : Nat) : mixN x < 18446744073709551616 := m3_lt _ (m2_lt (m1 x))
theorem mixI_cast (n : Nat) : mixI (n : Int) = ((mixN n : Nat) : Int) := by unfold mixI; rw [Int.toNat_natCast]
theorem mixI_bd (x : Int) : 0 ≤ mixI x ∧ mixI x < 18446744073709551616 := by
  have := mixN_lt x.toNat
  unfold mixI
  omega
theorem e1 (n : Nat) (h : n < 18446744073709551616) : IntKind.u64.wrap (bits .xor .u64 (n : Int) ((n : Int) / 1073741824) * 13787848793156543929) = ((m1 n : Nat) : Int) := mixStep_u64 n 1073741824 13787848793156543929 h
theorem e2 (n : Nat) (h : n < 18446744073709551616) : IntKind.u64.wrap (bits .xor .u64 (n : Int) ((n : Int) / 134217728) * 10723151780598845931) = ((m2 n : Nat) : Int) := mixStep_u64 n 134217728 10723151780598845931 h
theorem e3 (n : Nat) (h : n < 18446744073709551616) : bits .xor .u64 (n : Int) ((n : Int) / 2147483648) = ((m3 n : Nat) : Int) := xorShift_u64 n 2147483648 h
theorem mix_gen (x a b c : Int) (ha : IntKind.u64.wrap (bits .xor .u64 x (x / 1073741824) * 13787848793156543929) = a) (hb : IntKind.u64.wrap (bits .xor .u64 a (a / 134217728) * 10723151780598845931) = b) (hc : bits .xor .u64 b (b / 2147483648) = c) :
   bits .xor .u64 (IntKind.u64.wrap (bits .xor .u64 (IntKind.u64.wrap (bits .xor .u64 x (x / 1073741824) * 13787848793156543929)) ((IntKind.u64.wrap (bits .xor .u64 x (x / 1073741824) * 13787848793156543929)) / 134217728) * 10723151780598845931))
     ((IntKind.u64.wrap (bits .xor .u64 (IntKind.u64.wrap (bits .xor .u64 x (x / 1073741824) * 13787848793156543929)) ((IntKind.u64.wrap (bits .xor .u64 x (x / 1073741824) * 13787848793156543929)) / 134217728) * 10723151780598845931)) / 2147483648) = c := by
  rw [ha, hb, hc]
theorem mix_eq (x : Int) (h0 : 0 ≤ x) (h1 : x < 18446744073709551616) :
   bits .xor .u64 (IntKind.u64.wrap (bits .xor .u64 (IntKind.u64.wrap (bits .xor .u64 x (x / 1073741824) * 13787848793156543929)) ((IntKind.u64.wrap (bits .xor .u64 x (x / 1073741824) * 13787848793156543929)) / 134217728) * 10723151780598845931))
     ((IntKind.u64.wrap (bits .xor .u64 (IntKind.u64.wrap (bits .xor .u64 x (x / 1073741824) * 13787848793156543929)) ((IntKind.u64.wrap (bits .xor .u64 x (x / 1073741824) * 13787848793156543929)) / 134217728) * 10723151780598845931)) / 2147483648) = mixI x := by
  obtain ⟨n, rfl⟩ := Int.eq_ofNat_of_zero_le h0
  rw [mixI_cast]
  exact mix_gen _ _ _ _ (e1 n (by omega)) (e2 _ (m1_lt n)) (e3 _ (m2_lt _))
theorem tq (z c : Int) (h0 : 0 ≤ z) (h1 : z < 18446744073709551616) (hc : 1 ≤ c) : IntKind.u64.wrap (z.tdiv c) = z / c := IntWalk.u64_quo z c ⟨h0, by omega, hc⟩
theorem wr (z : Int) : 0 ≤ IntKind.u64.wrap z ∧ IntKind.u64.wrap z < 18446744073709551616 := by rw [IntKind.wrap_u64]; omega
theorem mix_eq' (x : Int) (h0 : 0 ≤ x) (h1 : x < 18446744073709551616) :
   bits .xor .u64 (IntKind.u64.wrap (bits .xor .u64 (IntKind.u64.wrap (bits .xor .u64 x (x / 1073741824) * 13787848793156543929)) (IntKind.u64.wrap ((IntKind.u64.wrap (bits .xor .u64 x (x / 1073741824) * 13787848793156543929)).tdiv 134217728)) * 10723151780598845931))
     (IntKind.u64.wrap ((IntKind.u64.wrap (bits .xor .u64 (IntKind.u64.wrap (bits .xor .u64 x (x / 1073741824) * 13787848793156543929)) (IntKind.u64.wrap ((IntKind.u64.wrap (bits .xor .u64 x (x / 1073741824) * 13787848793156543929)).tdiv 134217728)) * 10723151780598845931)).tdiv 2147483648)) = mixI x := by
  rw [tq _ 134217728 (wr _).1 (wr _).2 (by omega), tq _ 2147483648 (wr _).1 (wr _).2 (by omega), mix_eq x h0 h1]
def maskI (k a : Int) : Int := mixI (IntKind.u64.wrap (k + a))
theorem maskI_bd (k a : Int) : 0 ≤ maskI k a ∧ maskI k a < 18446744073709551616 := mixI_bd _
/-- What 'Put' answers. -/
def putI (k a n : Int) : Int := if a < 0 ∨ n < -1 ∨ 2147483647 < n then 0 else bits .xor .u64 (bits .or .u64 (n + 1) 6510516211317473280) (maskI k a)
def xI (k a u : Int) : Int := bits .xor .u64 u (maskI k a)
def hiI (x : Int) : Int := bits .andNot .u64 x 4294967295
def loI (x : Int) : Int := bits .and .u64 x 4294967295
/-- Whether 'Get' answers that there is a link. -/
def isI (k a u : Int) : Bool := decide (0 ≤ a) && (hiI (xI k a u) == 6510516211317473280) && decide (loI (xI k a u) ≤ 2147483648)
theorem xor_bd (a b : Int) (h1 : 0 ≤ a) (h2 : a < 18446744073709551616) (h3 : 0 ≤ b) (h4 : b < 18446744073709551616) : 0 ≤ bits .xor .u64 a b ∧ bits .xor .u64 a b < 18446744073709551616 := by
  rw [u64_xor a b h1 h2 h3 h4]
  have : a.toNat ^^^ b.toNat < 2 ^ 64 := Nat.xor_lt_two_pow (by omega) (by omega)
  omega
theorem xI_bd (k a u : Int) (h : 0 ≤ u) (h' : u < 18446744073709551616) : 0 ≤ xI k a u ∧ xI k a u < 18446744073709551616 := xor_bd _ _ h h' (maskI_bd k a).1 (maskI_bd k a).2
theorem loI_eq (x : Int) (h : 0 ≤ x) (h' : x < 18446744073709551616) : loI x = x % 4294967296 := by
  unfold loI
  rw [u64_and x 4294967295 h h' (by omega) (by omega)]
  show ((x.toNat &&& 4294967295 : Nat) : Int) = _
  rw [nat_mask32]; omega
theorem nat_hi (x : Nat) (h : x < 18446744073709551616) : x &&& 18446744069414584320 = x / 4294967296 * 4294967296 := by
  have e1 : (18446744069414584320 : Nat) = (2 ^ 32 - 1) <<< 32 := by decide
  have e2 : x / 4294967296 * 4294967296 = (x >>> 32) <<< 32 := by rw [Nat.shiftLeft_eq, Nat.shiftRight_eq_div_pow]
  rw [e1, e2]
  apply Nat.eq_of_testBit_eq
  intro i
  rw [Nat.testBit_and, Nat.testBit_shiftLeft, Nat.testBit_shiftLeft, Nat.testBit_shiftRight, Nat.testBit_two_pow_sub_one]
  by_cases h1 : 32 ≤ i
  · have e3 : 32 + (i - 32) = i := by omega
    rw [e3]
    by_cases h2 : i - 32 < 32
    · simp [h1, h2]
    · have : x.testBit i = false := Nat.testBit_lt_two_pow (Nat.lt_of_lt_of_le h (Nat.pow_le_pow_right (n := 2) (by decide) (by omega : 64 ≤ i)))
      simp [this]
  · simp [h1]
theorem hiI_eq (x : Int) (h : 0 ≤ x) (h' : x < 18446744073709551616) : hiI x = x / 4294967296 * 4294967296 := by
  unfold hiI
  rw [u64_andNot x 4294967295 h h' (by omega) (by omega)]
  show ((x.toNat &&& 18446744069414584320 : Nat) : Int) = _
  rw [nat_hi _ (by omega)]; omega
theorem or_mark (n : Int) (h : 0 ≤ n) (h' : n ≤ 2147483648) : bits .or .u64 n 6510516211317473280 = 6510516211317473280 + n := by
  rw [u64_or n _ h (by omega) (by omega) (by omega)]
  show ((n.toNat ||| 6510516211317473280 : Nat) : Int) = _
  have e := nat_join 48 6510516211317473280 n.toNat (by decide) (by omega)
  rw [Nat.or_comm, e]; omega
theorem xor_back (u m : Int) (h1 : 0 ≤ u) (h2 : u < 18446744073709551616) (h3 : 0 ≤ m) (h4 : m < 18446744073709551616) : bits .xor .u64 (bits .xor .u64 u m) m = u := by
  have b := xor_bd u m h1 h2 h3 h4
  rw [u64_xor _ m b.1 b.2 h3 h4, u64_xor u m h1 h2 h3 h4]
  simp only [Int.toNat_natCast]
  rw [Nat.xor_assoc, Nat.xor_self, Nat.xor_zero]; omega
theorem putI_out (k a n : Int) (h : a < 0 ∨ n < -1 ∨ 2147483647 < n) : putI k a n = 0 := by unfold putI; rw [if_pos h]
theorem putI_in (k a n : Int) (h1 : 0 ≤ a) (h2 : -1 ≤ n) (h3 : n ≤ 2147483647) : putI k a n = bits .xor .u64 (6510516211317473280 + (n + 1)) (maskI k a) := by
  unfold putI; rw [if_neg (by omega), or_mark _ (by omega) (by omega)]
theorem putI_bd (k a n : Int) : 0 ≤ putI k a n ∧ putI k a n < 18446744073709551616 := by
  by_cases h : a < 0 ∨ n < -1 ∨ 2147483647 < n
  · rw [putI_out k a n h]; omega
  · rw [putI_in k a n (by omega) (by omega) (by omega)]
    exact xor_bd _ _ (by omega) (by omega) (maskI_bd k a).1 (maskI_bd k a).2
theorem xI_put (k a n : Int) (h1 : 0 ≤ a) (h2 : -1 ≤ n) (h3 : n ≤ 2147483647) : xI k a (putI k a n) = 6510516211317473280 + (n + 1) := by
  rw [putI_in k a n h1 h2 h3]
  exact xor_back _ _ (by omega) (by omega) (maskI_bd k a).1 (maskI_bd k a).2
theorem isI_iff (k a u : Int) (h : 0 ≤ u) (h' : u < 18446744073709551616) : isI k a u = true ↔ 0 ≤ a ∧ xI k a u / 4294967296 = 1515847680 ∧ xI k a u % 4294967296 ≤ 2147483648 := by
  have b := xI_bd k a u h h'
  unfold isI
  rw [hiI_eq _ b.1 b.2, loI_eq _ b.1 b.2]
  simp only [Bool.and_eq_true, decide_eq_true_eq, beq_iff_eq]
  omega
/-- What was put is read. -/
theorem get_put (k a n : Int) (h1 : 0 ≤ a) (h2 : -1 ≤ n) (h3 : n ≤ 2147483647) : isI k a (putI k a n) = true ∧ loI (xI k a (putI k a n)) - 1 = n := by
  have b := putI_bd k a n
  have e := xI_put k a n h1 h2 h3
  constructor
  · rw [isI_iff _ _ _ b.1 b.2, e]; omega
  · rw [e, loI_eq _ (by omega) (by omega)]; omega
/-- What is read is what 'Put' makes of it. -/
theorem put_get (k a u : Int) (h : 0 ≤ u) (h' : u < 18446744073709551616) (hi : isI k a u = true) :
    0 ≤ a ∧ -1 ≤ loI (xI k a u) - 1 ∧ loI (xI k a u) - 1 ≤ 2147483647 ∧ putI k a (loI (xI k a u) - 1) = u := by
  have b := xI_bd k a u h h'
  rw [isI_iff _ _ _ h h'] at hi
  obtain ⟨ha, h1, h2⟩ := hi
  rw [loI_eq _ b.1 b.2]
  refine ⟨ha, by omega, by omega, ?_⟩
  rw [putI_in _ _ _ ha (by omega) (by omega)]
  have e : 6510516211317473280 + (xI k a u % 4294967296 - 1 + 1) = xI k a u := by omega
  rw [e]
  exact xor_back _ _ h h' (maskI_bd k a).1 (maskI_bd k a).2
/-- Unlike nexts, unlike links. -/
theorem putI_inj (k a n n' : Int) (h1 : 0 ≤ a) (h2 : -1 ≤ n) (h3 : n ≤ 2147483647) (h4 : -1 ≤ n') (h5 : n' ≤ 2147483647) (h : putI k a n = putI k a n') : n = n' := by
  have a1 := (get_put k a n h1 h2 h3).2
  have a2 := (get_put k a n' h1 h4 h5).2
  rw [h] at a1; omega
theorem i64_and31 (n : Int) : bits .and .i64 n 2147483647 = n % 2147483648 := by
  have h127 : (BitVec.ofInt 64 2147483647).toNat = 2 ^ 31 - 1 := by decide
  have key : (BitVec.ofInt 64 n &&& BitVec.ofInt 64 2147483647).toNat = (n % ((2 ^ 64 : Nat) : Int)).toNat % 2 ^ 31 := by
    rw [BitVec.toNat_and, BitVec.toNat_ofInt, h127, Nat.and_two_pow_sub_one_eq_mod]
  show IntKind.i64.wrap ((BitVec.ofInt 64 n &&& BitVec.ofInt 64 2147483647).toNat : Nat) = n % 2147483648
  rw [key, IntKind.wrap_i64]
  omega
theorem i64_and40 (n : Int) : bits .and .i64 n 1099511627775 = n % 1099511627776 := by
  have h127 : (BitVec.ofInt 64 1099511627775).toNat = 2 ^ 40 - 1 := by decide
  have key : (BitVec.ofInt 64 n &&& BitVec.ofInt 64 1099511627775).toNat = (n % ((2 ^ 64 : Nat) : Int)).toNat % 2 ^ 40 := by
    rw [BitVec.toNat_and, BitVec.toNat_ofInt, h127, Nat.and_two_pow_sub_one_eq_mod]
  show IntKind.i64.wrap ((BitVec.ofInt 64 n &&& BitVec.ofInt 64 1099511627775).toNat : Nat) = n % 1099511627776
  rw [key, IntKind.wrap_i64]
  omega
theorem u8_and15 (n : Int) (h : 0 ≤ n) (h' : n < 256) : bits .and .u8 n 15 = n % 16 := by
  rw [u8_and n 15 h h' (by omega) (by omega)]
  show ((n.toNat &&& 15 : Nat) : Int) = _
  rw [nat_mask4]; omega
/-- A link with a bit of its highest sixteen turned is none. -/
theorem turn_hi (x s : Nat) (hs : 32 ≤ s) : (x ^^^ 2 ^ s) / 4294967296 ≠ x / 4294967296 := by
  intro h
  have h1 : ((x ^^^ 2 ^ s) >>> 32).testBit (s - 32) = (x >>> 32).testBit (s - 32) := by
    rw [Nat.shiftRight_eq_div_pow, Nat.shiftRight_eq_div_pow]
    show ((x ^^^ 2 ^ s) / 4294967296).testBit (s - 32) = (x / 4294967296).testBit (s - 32)
    rw [h]
  rw [Nat.testBit_shiftRight, Nat.testBit_shiftRight, Nat.testBit_xor, Nat.testBit_two_pow] at h1
  have e : 32 + (s - 32) = s := by omega
  rw [e] at h1
  simp at h1
theorem xor4 (M m t : Nat) : ((M ^^^ m) ^^^ t) ^^^ m = M ^^^ t := by
  rw [Nat.xor_assoc (M ^^^ m), Nat.xor_comm t m, Nat.xor_assoc M m, ← Nat.xor_assoc m m t, Nat.xor_self, Nat.zero_xor]
theorem isI_turned (k a n : Int) (s t : Nat) (ht : t = 2 ^ s) (hs : 48 ≤ s) (hs' : s ≤ 63) (h1 : 0 ≤ a) (h2 : -1 ≤ n) (h3 : n ≤ 2147483647) : isI k a (bits .xor .u64 (putI k a n) (t : Int)) = false := by
  have hp : t < 18446744073709551616 := by rw [ht]; exact Nat.lt_of_le_of_lt (Nat.pow_le_pow_right (by decide) hs') (by decide)
  have b := putI_bd k a n
  have bm := maskI_bd k a
  have e := putI_in k a n h1 h2 h3
  have bx := xor_bd (putI k a n) (t : Int) b.1 b.2 (by omega) (by omega)
  cases hi : isI k a (bits .xor .u64 (putI k a n) (t : Int)) with
  | false => rfl
  | true =>
    exfalso
    rw [isI_iff _ _ _ bx.1 bx.2] at hi
    obtain ⟨_, hi, _⟩ := hi
    have ex : xI k a (bits .xor .u64 (putI k a n) (t : Int)) = ((((6510516211317473280 + (n + 1)).toNat ^^^ t : Nat)) : Int) := by
      unfold xI
      rw [u64_xor _ _ bx.1 bx.2 bm.1 bm.2, u64_xor _ _ b.1 b.2 (by omega) (by omega), e, u64_xor _ _ (by omega) (by omega) bm.1 bm.2]
      simp only [Int.toNat_natCast]
      rw [xor4]
    rw [ex] at hi
    have t := turn_hi (6510516211317473280 + (n + 1)).toNat s (by omega)
    rw [← ht] at t
    generalize ((6510516211317473280 + (n + 1)).toNat ^^^ _) = y at *
    omega
theorem shl1 (q : Int) (h0 : 0 ≤ q) (h1 : q ≤ 15) : ∃ s t : Nat, t = 2 ^ s ∧ 48 ≤ s ∧ s ≤ 63 ∧ IntKind.u64.wrap (2 ^ min (IntKind.u8.wrap (48 + q)).toNat 64) = (t : Int) := by
  obtain ⟨s, hs⟩ : ∃ s : Nat, s = (48 + q).toNat := ⟨_, rfl⟩
  refine ⟨s, 2 ^ s, rfl, by omega, by omega, ?_⟩
  rw [IntWalk.u8_in _ (by omega), ← hs]
  have e : min s 64 = s := by omega
  rw [e, IntKind.wrap_u64]
  have h : (2 : Nat) ^ s < 18446744073709551616 := Nat.lt_of_le_of_lt (Nat.pow_le_pow_right (by decide) (by omega : s ≤ 63)) (by decide)
  have c : ((2 ^ s : Nat) : Int) = (2 : Int) ^ s := by rw [Int.natCast_pow]; rfl
  rw [← c]
  generalize (2 : Nat) ^ s = t at *
  omega
end Go.Proofs.Ytgbbnmjfkhconaa
