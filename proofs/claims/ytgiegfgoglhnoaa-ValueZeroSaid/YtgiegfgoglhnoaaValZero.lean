/- ValueZero, walked. Conditions: the numbers are of their kinds. -/
import Derived.Test.YtgiegfgoglhnoaaVal8
namespace Go.Proofs.Ytgiegfgoglhnoaa
open Go.RowKit
set_option linter.unusedVariables false
set_option linter.unusedSimpArgs false
theorem run_fld0 (x y : Value) (w : World) : (Instr.field 25 (.agg #[x, y]) 0).run Try.prog w = .ok x w := by kernel_rfl
attribute [local go_sem] run_fld0
theorem valueZero_nat (i : Int) (b : Nat) (k : Int) (w : World) (hi : -9223372036854775808 ≤ i ∧ i ≤ 9223372036854775807) : Calls Try.prog 7 #[.int .i64 i, .int .u64 (b : Nat), .int .i64 k] w fun e w' => e = .returned (.bool true) ∧ Below w.heap.size w w' := by
  have hc := canon_canon b
  obtain ⟨c, hcb⟩ : ∃ c, c = canon b := ⟨_, rfl⟩
  rw [← hcb] at hc
  have HC := Lib.hid hc
  have HCB := Lib.hid hcb
  have HI : Hid (wrap64 (IntKind.u64.wrap i) = i) := Lib.hid (by rw [u64_uM, wrap_uM, wrap_of hi])
  clear hc hcb hi
  go_enter Try.func7, Try.ntmps7
  go_wp2_with fail
  refine (float_any b _).mono ?_
  rintro e w1 ⟨rfl, rfl⟩
  rw [← HCB.out]
  go_wp2_with fail
  refine (ofInt_any _ _).mono ?_
  rintro e w2 ⟨rfl, hb2⟩
  unfold valV
  go_wp2_with fail
  refine (int64_any _ _ _).mono ?_
  rintro e w3 ⟨rfl, hb3⟩
  rw [HI.out]
  go_wp2_with fail
  refine (ofInt_any _ _).mono ?_
  rintro e w4 ⟨rfl, hb4⟩
  unfold valV
  go_wp2_with fail
  refine (ofFloat_any _ _).mono ?_
  rintro e w5 ⟨rfl, hb5⟩
  rw [HC.out]
  unfold valV
  go_wp2_with fail
  refine (float64_any _ _ _).mono ?_
  rintro e w6 ⟨rfl, hb6⟩
  rw [HC.out]
  go_wp2_with fail
  refine (bits_any _ _).mono ?_
  rintro e w7 ⟨rfl, rfl⟩
  rw [HC.out]
  go_wp2_with fail
  refine (bits_any _ _).mono ?_
  rintro e w8 ⟨rfl, rfl⟩
  rw [HC.out]
  go_wp2_with fail
  refine (ofFloat_any _ _).mono ?_
  rintro e w9 ⟨rfl, hb9⟩
  rw [HC.out]
  unfold valV
  go_wp2_with fail
  refine (zero_any _ _).mono ?_
  rintro e w10 ⟨rfl, hb10⟩
  unfold valV
  go_wp2_with fail
  refine (awake23 _).mono ?_
  rintro e w11 ⟨rfl, hb11⟩
  go_wp2_with fail
  go_ret
  exact ⟨rfl, by (repeat' (first | exact Below.refl _ _ | assumption | refine b_alloc ?_ _ | refine b_over ?_ _ | refine b_drew ?_ | refine b_call ?_ (by assumption)))⟩
theorem valueZero_any (i b k : Int) (w : World) (hi : -9223372036854775808 ≤ i ∧ i ≤ 9223372036854775807) (hb : 0 ≤ b ∧ b ≤ 18446744073709551615) : Calls Try.prog 7 #[.int .i64 i, .int .u64 b, .int .i64 k] w fun e w' => e = .returned (.bool true) ∧ Below w.heap.size w w' := by
  obtain ⟨n, rfl⟩ := Int.eq_ofNat_of_zero_le hb.1
  exact valueZero_nat i n k w hi
end Go.Proofs.Ytgiegfgoglhnoaa
