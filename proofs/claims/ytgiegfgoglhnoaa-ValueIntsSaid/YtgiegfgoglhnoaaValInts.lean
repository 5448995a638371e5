/- ValueInts, walked. Conditions: the numbers are of their kinds. -/
import Derived.Test.YtgiegfgoglhnoaaVal8
import Derived.Laws.BitsLemmas
import Derived.Deep.DeepCutAuto
import Derived.Deep.CutBlock
namespace Go.Proofs.Ytgiegfgoglhnoaa
open Go.RowKit
set_option linter.unusedVariables false
set_option linter.unusedSimpArgs false
theorem i64_and15 (n : Int) : bits .and .i64 n 15 = n % 16 := by
  have h15 : (BitVec.ofInt 64 15).toNat = 2 ^ 4 - 1 := by decide
  have key : (BitVec.ofInt 64 n &&& BitVec.ofInt 64 15).toNat = (n % ((2 ^ 64 : Nat) : Int)).toNat % 2 ^ 4 := by
    rw [BitVec.toNat_and, BitVec.toNat_ofInt, h15, Nat.and_two_pow_sub_one_eq_mod]
  show IntKind.i64.wrap ((BitVec.ofInt 64 n &&& BitVec.ofInt 64 15).toNat : Nat) = n % 16
  rw [key, IntKind.wrap_i64]
  omega
theorem valueInts_any (op0 a b : Int) (w : World) (ho : -9223372036854775808 ≤ op0 ∧ op0 ≤ 9223372036854775807) (ha : -9223372036854775808 ≤ a ∧ a ≤ 9223372036854775807) (hb : -9223372036854775808 ≤ b ∧ b ≤ 9223372036854775807) : Calls Try.prog 4 #[.int .i64 op0, .int .i64 a, .int .i64 b] w fun e w' => e = .returned (.bool true) ∧ Below w.heap.size w w' := by
  have n15 := i64_and15 op0
  have m0 : 0 ≤ op0 % 16 := by omega
  have m1 : op0 % 16 < 16 := by omega
  obtain ⟨m, hm⟩ : ∃ m, m = op0 % 16 := ⟨_, rfl⟩
  rw [← hm] at n15 m0 m1
  obtain ⟨op, hop⟩ : ∃ op, op = m % 12 := ⟨_, rfl⟩
  have o1 : 0 ≤ op := by omega
  have o2 : op < 12 := by omega
  have hrem : m.tmod 12 = op := by rw [Int.tmod_eq_emod_of_nonneg m0, hop]
  have ht : takesO op = 0 := by unfold takesO; rw [if_neg (by omega), if_pos o2]
  have hw : ∀ i : Int, (-9223372036854775808 ≤ i ∧ i ≤ 9223372036854775807) → wrap64 (IntKind.u64.wrap i) = i := fun i h => by rw [u64_uM, wrap_uM, wrap_of h]
  have hx := hw a ha
  have hy := hw b hb
  have HBin := fun w => binary_any op 0 (IntKind.u64.wrap a) 0 (IntKind.u64.wrap b) w u64_in' u64_in'
  rw [bin_int ht] at HBin
  have hop2 := hop.symm
  cases hbad : intBad op (IntKind.u64.wrap b) with
  | true =>
    have HI := Lib.hid (fun w => rint_bad op (IntKind.u64.wrap a) (IntKind.u64.wrap b) w hbad)
    rw [hbad] at HBin
    simp only [if_true] at HBin
    have HB := Lib.hid HBin
    clear HBin hm hop o1 o2 ht hw hx hy ho ha hb hbad m1
    go_enter Try.func4, Try.ntmps4
    go_wp2_with fail
    refine (ofInt_any _ _).mono ?_
    rintro e w1 ⟨rfl, hb1⟩
    go_wp2_with fail
    refine (ofInt_any _ _).mono ?_
    rintro e w2 ⟨rfl, hb2⟩
    go_wp2_with fail
    refine (HB.out _).mono ?_
    rintro e w3 ⟨rfl, hb3⟩
    have hq := b_call (b_call hb1 hb2) hb3
    clear hb1 hb2 hb3
    unfold valV
    go_wp2_with fail
    refine (HI.out _).mono ?_
    rintro e w4 ⟨rfl, hb4⟩
    obtain ⟨c0, c1, cf⟩ := blk2 (blk_born hb4)
    go_wp2_with fail
    refine (awake23 _).mono ?_
    rintro e w5 ⟨rfl, hb5⟩
    go_wp2_with fail
    go_ret
    exact ⟨rfl, b_call (b_call (b_alloc hq _) hb4) hb5⟩
  | false =>
    have HI := Lib.hid (fun w => rint_any op (IntKind.u64.wrap a) (IntKind.u64.wrap b) w o1 o2 u64_in' u64_in' hbad)
    rw [hbad] at HBin
    simp only [Bool.false_eq_true, if_false] at HBin
    have HB := Lib.hid HBin
    clear HBin hm hop o1 o2 ht hw hx hy ho ha hb hbad m1
    go_enter Try.func4, Try.ntmps4
    go_wp2_with fail
    refine (ofInt_any _ _).mono ?_
    rintro e w1 ⟨rfl, hb1⟩
    go_wp2_with fail
    refine (ofInt_any _ _).mono ?_
    rintro e w2 ⟨rfl, hb2⟩
    go_wp2_with fail
    refine (HB.out _).mono ?_
    rintro e w3 ⟨rfl, hb3⟩
    have hq := b_call (b_call hb1 hb2) hb3
    clear hb1 hb2 hb3
    unfold valV
    go_wp2_with fail
    refine (HI.out _).mono ?_
    rintro e w4 ⟨rfl, hb4⟩
    obtain ⟨c0, c1, cf⟩ := blk2 (blk_born hb4)
    go_wp2_with fail
    refine (awake23 _).mono ?_
    rintro e w5 ⟨rfl, hb5⟩
    go_wp2_with fail
    go_ret
    exact ⟨rfl, b_call (b_call (b_alloc hq _) hb4) hb5⟩
end Go.Proofs.Ytgiegfgoglhnoaa
