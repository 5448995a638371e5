/- Layer 23: unary operations, those that the laws use. Conditions: words have 64 bits. -/
import Derived.Test.YtgiegfgoglhnoaaVal8
namespace Go.Proofs.Ytgiegfgoglhnoaa
open Go.RowKit
set_option linter.unusedVariables false
set_option linter.unusedSimpArgs false
attribute [local go_sem] run_negf
theorem ukinds0 (w : World) : Calls Try.prog 42 #[.int .i64 0] w fun e w' => e = .returned (.tuple #[.int .i64 0, .int .i64 0, .bool true]) ∧ w = w' := by
  go_enter Try.func42, Try.ntmps42
  go_wp2_with fail
  go_ret3
  exact ⟨rfl, rfl⟩
theorem ukinds2 (w : World) : Calls Try.prog 42 #[.int .i64 2] w fun e w' => e = .returned (.tuple #[.int .i64 1, .int .i64 1, .bool true]) ∧ w = w' := by
  go_enter Try.func42, Try.ntmps42
  go_wp2_with fail
  go_ret3
  exact ⟨rfl, rfl⟩
theorem ukinds3 (w : World) : Calls Try.prog 42 #[.int .i64 3] w fun e w' => e = .returned (.tuple #[.int .i64 1, .int .i64 1, .bool true]) ∧ w = w' := by
  go_enter Try.func42, Try.ntmps42
  go_wp2_with fail
  go_ret3
  exact ⟨rfl, rfl⟩
theorem ukinds6 (w : World) : Calls Try.prog 42 #[.int .i64 6] w fun e w' => e = .returned (.tuple #[.int .i64 1, .int .i64 0, .bool true]) ∧ w = w' := by
  go_enter Try.func42, Try.ntmps42
  go_wp2_with fail
  go_ret3
  exact ⟨rfl, rfl⟩
theorem ukinds7 (w : World) : Calls Try.prog 42 #[.int .i64 7] w fun e w' => e = .returned (.tuple #[.int .i64 0, .int .i64 1, .bool true]) ∧ w = w' := by
  go_enter Try.func42, Try.ntmps42
  go_wp2_with fail
  go_ret3
  exact ⟨rfl, rfl⟩
theorem unary0 (b : Nat) (w : World) (hb : b < 18446744073709551616) : Calls Try.prog 26 #[.int .i64 0, valV 0 (b : Nat)] w fun e w' => e = .returned (.tuple #[valV 0 (uM (-(b : Int))), .int .i64 0]) ∧ Below w.heap.size w w' := by
  have H0 : Hid (IntKind.u64.wrap (wrap64 (-(wrap64 (b : Int)))) = uM (-(b : Int))) := Lib.hid (by rw [u64_uM, uM_wrap]; unfold uM wrap64; omega)
  have X1 := blk_alloc (blk_new w #[.int .i64 0, .int .u64 (b : Nat)] 25) (.cells #[.int .i64 0, .int .u64 0] 25)
  have X2 := blk_new (w.alloc (.cells #[.int .i64 0, .int .u64 (b : Nat)] 25)) #[.int .i64 0, .int .u64 0] 25
  rw [show (w.alloc (.cells #[.int .i64 0, .int .u64 (b : Nat)] 25)).heap.size = w.heap.size + 1 by simp] at X2
  unfold valV
  go_enter Try.func26, Try.ntmps26
  go_wp2_with fail
  refine (ukinds0 _).mono ?_
  rintro e w1 ⟨rfl, rfl⟩
  go_wp2_with fail
  refine (float64_any _ b _).mono ?_
  rintro e w2 ⟨rfl, hb2⟩
  replace X1 := blk_below X1 hb2
  replace X2 := blk_below X2 hb2
  have hB : Below w.heap.size w w2 := b_call (b_alloc (b_alloc (Below.refl _ _) _) _) hb2
  clear hb2
  obtain ⟨a0, a1, af⟩ := blk2 X1
  go_wp2_with fail
  refine (int64_any _ _ _).mono ?_
  rintro e w3 ⟨rfl, hb3⟩
  replace X1 := blk_below X1 hb3
  replace X2 := blk_below X2 hb3
  replace hB := b_call hB hb3
  clear hb3
  go_wp2_with fail
  refine (ofInt_any _ _).mono ?_
  rintro e w4 ⟨rfl, hb4⟩
  replace X1 := blk_below X1 hb4
  replace X2 := blk_below X2 hb4
  replace hB := b_call hB hb4
  clear hb4
  rw [H0.out]
  clear a0 a1 af
  obtain ⟨c0, c1, cf⟩ := blk2 X2
  unfold valV
  go_wp2_with fail
  exact bodyPost_ret (v := .tuple #[valV 0 (uM (-(b : Int))), .int .i64 0]) (by simp [results, Try.results26, go_sem, valV, c0, c1, cf]) rfl ⟨rfl, b_set (b_set hB (by simp only []; omega) _) (by simp only []; omega) _⟩
theorem unary2 (b : Nat) (w : World) (hb : b < 18446744073709551616) : Calls Try.prog 26 #[.int .i64 2, valV 1 (b : Nat)] w fun e w' => e = .returned (.tuple #[valV 1 (canon (negN (canon b)) : Nat), .int .i64 0]) ∧ Below w.heap.size w w' := by
  have X1 := blk_alloc (blk_new w #[.int .i64 1, .int .u64 (b : Nat)] 25) (.cells #[.int .i64 0, .int .u64 0] 25)
  have X2 := blk_new (w.alloc (.cells #[.int .i64 1, .int .u64 (b : Nat)] 25)) #[.int .i64 0, .int .u64 0] 25
  rw [show (w.alloc (.cells #[.int .i64 1, .int .u64 (b : Nat)] 25)).heap.size = w.heap.size + 1 by simp] at X2
  unfold valV
  go_enter Try.func26, Try.ntmps26
  go_wp2_with fail
  refine (ukinds2 _).mono ?_
  rintro e w1 ⟨rfl, rfl⟩
  go_wp2_with fail
  refine (float64_any _ b _).mono ?_
  rintro e w2 ⟨rfl, hb2⟩
  replace X1 := blk_below X1 hb2
  replace X2 := blk_below X2 hb2
  have hB : Below w.heap.size w w2 := b_call (b_alloc (b_alloc (Below.refl _ _) _) _) hb2
  clear hb2
  obtain ⟨a0, a1, af⟩ := blk2 X1
  go_wp2_with fail
  refine (ofFloat_any (negN (canon b)) _).mono ?_
  rintro e w3 ⟨rfl, hb3⟩
  replace X1 := blk_below X1 hb3
  replace X2 := blk_below X2 hb3
  replace hB := b_call hB hb3
  clear hb3
  clear a0 a1 af
  obtain ⟨c0, c1, cf⟩ := blk2 X2
  unfold valV
  go_wp2_with fail
  exact bodyPost_ret (v := .tuple #[valV 1 (canon (negN (canon b)) : Nat), .int .i64 0]) (by simp [results, Try.results26, go_sem, valV, c0, c1, cf]) rfl ⟨rfl, b_set (b_set hB (by simp only []; omega) _) (by simp only []; omega) _⟩
theorem unary3 (b : Nat) (w : World) (hb : b < 18446744073709551616) : Calls Try.prog 26 #[.int .i64 3, valV 1 (b : Nat)] w fun e w' => e = .returned (.tuple #[valV 1 (canon (canon b % 9223372036854775808) : Nat), .int .i64 0]) ∧ Below w.heap.size w w' := by
  have X1 := blk_alloc (blk_new w #[.int .i64 1, .int .u64 (b : Nat)] 25) (.cells #[.int .i64 0, .int .u64 0] 25)
  have X2 := blk_new (w.alloc (.cells #[.int .i64 1, .int .u64 (b : Nat)] 25)) #[.int .i64 0, .int .u64 0] 25
  rw [show (w.alloc (.cells #[.int .i64 1, .int .u64 (b : Nat)] 25)).heap.size = w.heap.size + 1 by simp] at X2
  unfold valV
  go_enter Try.func26, Try.ntmps26
  go_wp2_with fail
  refine (ukinds3 _).mono ?_
  rintro e w1 ⟨rfl, rfl⟩
  go_wp2_with fail
  refine (float64_any _ b _).mono ?_
  rintro e w2 ⟨rfl, hb2⟩
  replace X1 := blk_below X1 hb2
  replace X2 := blk_below X2 hb2
  have hB : Below w.heap.size w w2 := b_call (b_alloc (b_alloc (Below.refl _ _) _) _) hb2
  clear hb2
  obtain ⟨a0, a1, af⟩ := blk2 X1
  go_wp2_with fail
  refine (abs_any (canon b) _ (canon_lt hb)).mono ?_
  rintro e w3 ⟨rfl, rfl⟩
  go_wp2_with fail
  refine (ofFloat_any _ _).mono ?_
  rintro e w4 ⟨rfl, hb4⟩
  replace X1 := blk_below X1 hb4
  replace X2 := blk_below X2 hb4
  replace hB := b_call hB hb4
  clear hb4
  clear a0 a1 af
  obtain ⟨c0, c1, cf⟩ := blk2 X2
  unfold valV
  go_wp2_with fail
  exact bodyPost_ret (v := .tuple #[valV 1 (canon (canon b % 9223372036854775808) : Nat), .int .i64 0]) (by simp [results, Try.results26, go_sem, valV, c0, c1, cf]) rfl ⟨rfl, b_set (b_set hB (by simp only []; omega) _) (by simp only []; omega) _⟩
theorem unary6 (b : Nat) (w : World) (hb : b < 18446744073709551616) : Calls Try.prog 26 #[.int .i64 6, valV 1 (b : Nat)] w fun e w' => e = .returned (.tuple #[valV 0 (canon b : Nat), .int .i64 0]) ∧ Below w.heap.size w w' := by
  have H0 : Hid (IntKind.u64.wrap (wrap64 ((canon b : Nat) : Int)) = ((canon b : Nat) : Int)) := Lib.hid (by have := canon_lt hb; rw [u64_uM, uM_wrap]; unfold uM; omega)
  have X1 := blk_alloc (blk_new w #[.int .i64 1, .int .u64 (b : Nat)] 25) (.cells #[.int .i64 0, .int .u64 0] 25)
  have X2 := blk_new (w.alloc (.cells #[.int .i64 1, .int .u64 (b : Nat)] 25)) #[.int .i64 0, .int .u64 0] 25
  rw [show (w.alloc (.cells #[.int .i64 1, .int .u64 (b : Nat)] 25)).heap.size = w.heap.size + 1 by simp] at X2
  unfold valV
  go_enter Try.func26, Try.ntmps26
  go_wp2_with fail
  refine (ukinds6 _).mono ?_
  rintro e w1 ⟨rfl, rfl⟩
  go_wp2_with fail
  refine (float64_any _ b _).mono ?_
  rintro e w2 ⟨rfl, hb2⟩
  replace X1 := blk_below X1 hb2
  replace X2 := blk_below X2 hb2
  have hB : Below w.heap.size w w2 := b_call (b_alloc (b_alloc (Below.refl _ _) _) _) hb2
  clear hb2
  obtain ⟨a0, a1, af⟩ := blk2 X1
  go_wp2_with fail
  refine (bits_any _ _).mono ?_
  rintro e w3 ⟨rfl, rfl⟩
  rw [canon_canon]
  go_wp2_with fail
  refine (ofInt_any _ _).mono ?_
  rintro e w4 ⟨rfl, hb4⟩
  replace X1 := blk_below X1 hb4
  replace X2 := blk_below X2 hb4
  replace hB := b_call hB hb4
  clear hb4
  rw [H0.out]
  clear a0 a1 af
  obtain ⟨c0, c1, cf⟩ := blk2 X2
  unfold valV
  go_wp2_with fail
  exact bodyPost_ret (v := .tuple #[valV 0 (canon b : Nat), .int .i64 0]) (by simp [results, Try.results26, go_sem, valV, c0, c1, cf]) rfl ⟨rfl, b_set (b_set hB (by simp only []; omega) _) (by simp only []; omega) _⟩
theorem unary7 (b : Nat) (w : World) (hb : b < 18446744073709551616) : Calls Try.prog 26 #[.int .i64 7, valV 0 (b : Nat)] w fun e w' => e = .returned (.tuple #[valV 1 (canon b : Nat), .int .i64 0]) ∧ Below w.heap.size w w' := by
  have X1 := blk_alloc (blk_new w #[.int .i64 0, .int .u64 (b : Nat)] 25) (.cells #[.int .i64 0, .int .u64 0] 25)
  have X2 := blk_new (w.alloc (.cells #[.int .i64 0, .int .u64 (b : Nat)] 25)) #[.int .i64 0, .int .u64 0] 25
  rw [show (w.alloc (.cells #[.int .i64 0, .int .u64 (b : Nat)] 25)).heap.size = w.heap.size + 1 by simp] at X2
  unfold valV
  go_enter Try.func26, Try.ntmps26
  go_wp2_with fail
  refine (ukinds7 _).mono ?_
  rintro e w1 ⟨rfl, rfl⟩
  go_wp2_with fail
  refine (float64_any _ b _).mono ?_
  rintro e w2 ⟨rfl, hb2⟩
  replace X1 := blk_below X1 hb2
  replace X2 := blk_below X2 hb2
  have hB : Below w.heap.size w w2 := b_call (b_alloc (b_alloc (Below.refl _ _) _) _) hb2
  clear hb2
  obtain ⟨a0, a1, af⟩ := blk2 X1
  go_wp2_with fail
  refine (float_any b _).mono ?_
  rintro e w3 ⟨rfl, rfl⟩
  go_wp2_with fail
  refine (ofFloat_any _ _).mono ?_
  rintro e w4 ⟨rfl, hb4⟩
  replace X1 := blk_below X1 hb4
  replace X2 := blk_below X2 hb4
  replace hB := b_call hB hb4
  clear hb4
  rw [canon_canon]
  clear a0 a1 af
  obtain ⟨c0, c1, cf⟩ := blk2 X2
  unfold valV
  go_wp2_with fail
  exact bodyPost_ret (v := .tuple #[valV 1 (canon b : Nat), .int .i64 0]) (by simp [results, Try.results26, go_sem, valV, c0, c1, cf]) rfl ⟨rfl, b_set (b_set hB (by simp only []; omega) _) (by simp only []; omega) _⟩
end Go.Proofs.Ytgiegfgoglhnoaa
