/- Layer 23: chapter 23's examples. No conditions. -/
import Derived.Test.YtgiegfgoglhnoaaVal7
namespace Go.Proofs.Ytgiegfgoglhnoaa
open Go.RowKit
set_option linter.unusedVariables false
set_option linter.unusedSimpArgs false
theorem u64_in' {i : Int} : U64 (IntKind.u64.wrap i) := by rw [u64_uM]; exact uM_in i
theorem w7 : wrap64 (IntKind.u64.wrap (-7)) = -7 := by rw [u64_uM, wrap_uM]; unfold wrap64; omega
theorem w2' : wrap64 2 = 2 := by unfold wrap64; omega
theorem w3' : wrap64 18446744073709551613 = -3 := by unfold wrap64; omega
theorem w1' : wrap64 18446744073709551615 = -1 := by unfold wrap64; omega
theorem ex_q : intO 3 (IntKind.u64.wrap (-7)) 2 = 18446744073709551613 := by
  show uM ((wrap64 (IntKind.u64.wrap (-7))).tdiv (wrap64 2)) = _
  rw [w7, w2', show Int.tdiv (-7) 2 = -3 by decide]; unfold uM; omega
theorem ex_r : intO 4 (IntKind.u64.wrap (-7)) 2 = 18446744073709551615 := by
  show uM ((wrap64 (IntKind.u64.wrap (-7))).tmod (wrap64 2)) = _
  rw [w7, w2', show Int.tmod (-7) 2 = -1 by decide]; unfold uM; omega
theorem ex_div : retBin (binO 3 0 (IntKind.u64.wrap (-7)) 0 2) = .tuple #[valV 0 18446744073709551613, .int .i64 0] := by
  rw [bin_int (by decide), show intBad 3 2 = false by decide, ex_q]; rfl
theorem ex_rem : retBin (binO 4 0 (IntKind.u64.wrap (-7)) 0 2) = .tuple #[valV 0 18446744073709551615, .int .i64 0] := by
  rw [bin_int (by decide), show intBad 4 2 = false by decide, ex_r]; rfl
theorem ex_min : floO 18 (canon 0) (canon 9223372036854775808) = 9223372036854775808 := by decide
theorem ex_flo : retBin (binO 18 1 ((0 : Nat) : Int) 1 ((9223372036854775808 : Nat) : Int)) = .tuple #[valV 1 9223372036854775808, .int .i64 0] := by
  rw [bin_flo (by decide), ex_min]; rfl
theorem awake23 (w : World) : Calls Try.prog 16 #[] w fun e w' => e = .returned (.bool true) ∧ Below w.heap.size w w' := by
  go_enter Try.func16, Try.ntmps16
  go_wp2_with fail
  refine (ofInt_any _ _).mono ?_
  rintro e w1 ⟨rfl, hb1⟩
  go_wp2_with fail
  refine (ofInt_any _ _).mono ?_
  rintro e w2 ⟨rfl, hb2⟩
  go_wp2_with fail
  refine (binary_any 3 0 (IntKind.u64.wrap (-7)) 0 2 _ u64_in' ⟨by decide, by decide⟩).mono ?_
  rintro e w3 ⟨rfl, hb3⟩
  rw [ex_div]
  unfold valV
  have hB3 := b_call (b_call hb1 hb2) hb3
  clear hb1 hb2 hb3
  go_wp2_with fail
  refine (ofInt_any _ _).mono ?_
  rintro e w4 ⟨rfl, hb4⟩
  go_wp2_with fail
  refine (ofInt_any _ _).mono ?_
  rintro e w5 ⟨rfl, hb5⟩
  go_wp2_with fail
  refine (binary_any 4 0 (IntKind.u64.wrap (-7)) 0 2 _ u64_in' ⟨by decide, by decide⟩).mono ?_
  rintro e w6 ⟨rfl, hb6⟩
  rw [ex_rem]
  unfold valV
  have hq := b_call (b_call hb4 hb5) hb6
  have F1 := blk_born hq
  have hB6 := b_call (b_alloc hB3 _) hq
  clear hb4 hb5 hb6 hq hB3
  go_wp2_with fail
  refine (ofFloat_any _ _).mono ?_
  rintro e w7 ⟨rfl, hb7⟩
  go_wp2_with fail
  refine (binary_any 18 1 ((0 : Nat) : Int) 1 ((9223372036854775808 : Nat) : Int) _ ⟨by decide, by decide⟩ ⟨by decide, by decide⟩).mono ?_
  rintro e w8 ⟨rfl, hb8⟩
  rw [ex_flo]
  unfold valV
  have hq := b_call hb7 hb8
  have F2 := blk_born hq
  have G1 := blk_below (blk_alloc F1 _) hq
  have hB8 := b_call (b_alloc hB6 _) hq
  obtain ⟨a0, a1, af⟩ := blk2 G1
  obtain ⟨c0, c1, cf⟩ := blk2 F2
  have z1 := G1.1
  have z2 := F2.1
  clear hb7 hb8 F1
  go_wp2_with fail
  refine (int64_any _ _ _).mono ?_
  rintro e w9 ⟨rfl, hb9⟩
  have G9 := blk_below (blk_alloc G1 (.cells #[.int .i64 1, .int .u64 9223372036854775808] 25)) hb9
  have F9 := blk_below (blk_alloc F2 (.cells #[.int .i64 1, .int .u64 9223372036854775808] 25)) hb9
  have K9 := blk_born hb9
  clear a0 a1 af c0 c1 cf
  obtain ⟨c0, c1, cf⟩ := blk2 F9
  rw [w3']
  go_wp2_with fail
  refine (int64_any _ _ _).mono ?_
  rintro e w10 ⟨rfl, hb10⟩
  have K10 := blk_below K9 hb10
  clear c0 c1 cf
  obtain ⟨c0, c1, cf⟩ := blk2 K10
  rw [w1']
  go_wp2_with fail
  go_ret
  exact ⟨rfl, b_call (b_call (b_alloc hB8 _) hb9) hb10⟩
end Go.Proofs.Ytgiegfgoglhnoaa
