/- ValueFloats, walked. Conditions: the numbers are of their kinds. -/
import Derived.Test.YtgiegfgoglhnoaaVal8
import Derived.Laws.BitsLemmas
import Derived.Deep.DeepCutAuto
import Derived.Deep.CutBlock
namespace Go.Proofs.Ytgiegfgoglhnoaa
open Go.RowKit
set_option linter.unusedVariables false
set_option linter.unusedSimpArgs false
theorem i64_and7 (n : Int) : bits .and .i64 n 7 = n % 8 := by
  have h7 : (BitVec.ofInt 64 7).toNat = 2 ^ 3 - 1 := by decide
  have key : (BitVec.ofInt 64 n &&& BitVec.ofInt 64 7).toNat = (n % ((2 ^ 64 : Nat) : Int)).toNat % 2 ^ 3 := by
    rw [BitVec.toNat_and, BitVec.toNat_ofInt, h7, Nat.and_two_pow_sub_one_eq_mod]
  show IntKind.i64.wrap ((BitVec.ofInt 64 n &&& BitVec.ofInt 64 7).toNat : Nat) = n % 8
  rw [key, IntKind.wrap_i64]
  omega
set_option maxHeartbeats 600000 in
theorem valueFloats_nat (op0 : Int) (a b : Nat) (w : World) (ha : a < 18446744073709551616) (hb : b < 18446744073709551616) : Calls Try.prog 5 #[.int .i64 op0, .int .u64 (a : Nat), .int .u64 (b : Nat)] w fun e w' => e = .returned (.bool true) ∧ Below w.heap.size w w' := by
  have n7 := i64_and7 op0
  have m0 : 0 ≤ op0 % 8 := by omega
  have m1 : op0 % 8 < 8 := by omega
  obtain ⟨m, hm⟩ : ∃ m, m = op0 % 8 := ⟨_, rfl⟩
  rw [← hm] at n7 m0 m1
  clear hm
  obtain ⟨op, hop⟩ : ∃ op, op = 12 + m := ⟨_, rfl⟩
  have o1 : 12 ≤ op := by omega
  have o2 : op ≤ 19 := by omega
  have ht : takesO op = 1 := by unfold takesO; rw [if_neg (by omega), if_neg (by omega)]
  have hx := canon_canon a
  have hy := canon_canon b
  have lx := canon_lt ha
  have ly := canon_lt hb
  obtain ⟨x, hxa⟩ : ∃ x, x = canon a := ⟨_, rfl⟩
  obtain ⟨y, hyb⟩ : ∃ y, y = canon b := ⟨_, rfl⟩
  rw [← hxa] at hx lx
  rw [← hyb] at hy ly
  have HBin := fun w => binary_any op 1 (x : Nat) 1 (y : Nat) w ⟨by omega, by omega⟩ ⟨by omega, by omega⟩
  rw [bin_flo ht, hx, hy] at HBin
  have HRf := fun w => rfl_any op x y w o1 o2 lx ly
  generalize floO op x y = rv at HBin HRf
  have HB := Lib.hid HBin; have HR := Lib.hid HRf; have HX := Lib.hid hx; have HY := Lib.hid hy; have HXA := Lib.hid hxa; have HYB := Lib.hid hyb
  have hop2 := hop.symm
  clear HBin HRf hx hy hxa hyb lx ly ha hb ht hop o1 o2
  go_enter Try.func5, Try.ntmps5
  go_wp2_with fail
  refine (float_any a _).mono ?_
  rintro e w1 ⟨rfl, rfl⟩
  rw [← HXA.out]
  go_wp2_with fail
  refine (float_any b _).mono ?_
  rintro e w1 ⟨rfl, rfl⟩
  rw [← HYB.out]
  go_wp2_with fail
  refine (ofFloat_any _ _).mono ?_
  rintro e w1 ⟨rfl, hb1⟩
  rw [HX.out]
  go_wp2_with fail
  refine (ofFloat_any _ _).mono ?_
  rintro e w2 ⟨rfl, hb2⟩
  rw [HY.out]
  go_wp2_with fail
  refine (HB.out _).mono ?_
  rintro e w3 ⟨rfl, hb3⟩
  unfold valV
  have N3 := blk_new w3 #[.int .i64 (givesO op), .int .u64 (rv : Nat)] 25
  have H8 : Hid (∀ w', Below (w3.alloc (.cells #[.int .i64 (givesO op), .int .u64 (rv : Nat)] 25)).heap.size (w3.alloc (.cells #[.int .i64 (givesO op), .int .u64 (rv : Nat)] 25)) w' → (w'.cell? ⟨w3.heap.size, 0, none⟩ = some (.int .i64 (givesO op)) ∧ w'.cell? ⟨w3.heap.size, 1, none⟩ = some (.int .u64 (rv : Nat)))) := Lib.hid (fun w' hb => by
    obtain ⟨q0, q1, _⟩ := blk2 (blk_below N3 hb)
    exact ⟨q0, q1⟩)
  clear N3
  go_upto_region 4 with fail
  go_region_held3 (fun w' => w'.cell? ⟨w3.heap.size, 0, none⟩ = some (.int .i64 (givesO op)) ∧ w'.cell? ⟨w3.heap.size, 1, none⟩ = some (.int .u64 (rv : Nat)))
    ((exact H8.out _ (by (repeat' (first | exact Below.refl _ _ | assumption | refine b_alloc ?_ _ | refine b_over ?_ _ | refine b_drew ?_ | refine b_call ?_ (by assumption))))))
    ((first
      | (go_at_call 22; refine (bits_any _ _).mono ?_; (first | rw [HX.out] | rw [HY.out]); rintro e w4 ⟨rfl, rfl⟩)
      | (go_at_call 21; refine (HR.out _).mono ?_; rintro e w5 ⟨rfl, hb5⟩)
      | (go_at_call 15; refine (gives_any _ _).mono ?_; rintro e w6 ⟨rfl, rfl⟩)
      | (go_at_call 16; refine (awake23 _).mono ?_; rintro e w10 ⟨rfl, hb10⟩)))
  go_wp2
  go_ret
  exact ⟨rfl, by (repeat' (first | exact Below.refl _ _ | assumption | refine b_alloc ?_ _ | refine b_over ?_ _ | refine b_drew ?_ | refine b_call ?_ (by assumption)))⟩
theorem valueFloats_any (op0 a b : Int) (w : World) (ha : 0 ≤ a ∧ a ≤ 18446744073709551615) (hb : 0 ≤ b ∧ b ≤ 18446744073709551615) : Calls Try.prog 5 #[.int .i64 op0, .int .u64 a, .int .u64 b] w fun e w' => e = .returned (.bool true) ∧ Below w.heap.size w w' := by
  obtain ⟨n, rfl⟩ := Int.eq_ofNat_of_zero_le ha.1
  obtain ⟨m, rfl⟩ := Int.eq_ofNat_of_zero_le hb.1
  exact valueFloats_nat op0 n m w (by omega) (by omega)
end Go.Proofs.Ytgiegfgoglhnoaa
