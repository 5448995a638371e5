/- ValueDivides, walked. Conditions: the numbers are of their kinds. -/
import Derived.Test.YtgiegfgoglhnoaaVal8
import Derived.Deep.DeepCutAuto
import Derived.Deep.CutBlock
namespace Go.Proofs.Ytgiegfgoglhnoaa
open Go.RowKit
set_option linter.unusedVariables false
set_option linter.unusedSimpArgs false
theorem v_zero : IntKind.u64.wrap 0 = 0 := by rw [u64_uM]; rfl
theorem valueDivides_zero (a : Int) (w : World) : Calls Try.prog 6 #[.int .i64 a, .int .i64 0] w fun e w' => e = .returned (.bool true) ∧ Below w.heap.size w w' := by
  have HA := fun op (h : takesO op = 0) w => binary_any op 0 (IntKind.u64.wrap a) 0 0 w u64_in' ⟨by decide, by decide⟩
  have H3 := HA 3 (by decide)
  have H4 := HA 4 (by decide)
  rw [bin_int (by decide), show intBad 3 0 = true by decide] at H3
  rw [bin_int (by decide), show intBad 4 0 = true by decide] at H4
  simp only [if_true] at H3 H4
  have G3 := Lib.hid H3; have G4 := Lib.hid H4
  clear HA H3 H4
  go_enter Try.func6, Try.ntmps6
  go_wp2_with fail
  refine (ofInt_any _ _).mono ?_
  rintro e w1 ⟨rfl, hb1⟩
  go_wp2_with fail
  refine (ofInt_any _ _).mono ?_
  rintro e w2 ⟨rfl, hb2⟩
  go_wp2_with fail
  refine (G3.out _).mono ?_
  rintro e w3 ⟨rfl, hb3⟩
  unfold valV
  go_wp2_with fail
  refine (ofInt_any _ _).mono ?_
  rintro e w4 ⟨rfl, hb4⟩
  go_wp2_with fail
  refine (ofInt_any _ _).mono ?_
  rintro e w5 ⟨rfl, hb5⟩
  go_wp2_with fail
  refine (G4.out _).mono ?_
  rintro e w6 ⟨rfl, hb6⟩
  unfold valV
  go_wp2_with fail
  refine (awake23 _).mono ?_
  rintro e w7 ⟨rfl, hb7⟩
  go_wp2_with fail
  go_ret
  exact ⟨rfl, by (repeat' (first | exact Below.refl _ _ | assumption | refine b_alloc ?_ _ | refine b_over ?_ _ | refine b_drew ?_ | refine b_call ?_ (by assumption)))⟩
theorem div_facts {a b : Int} (ha : -9223372036854775808 ≤ a ∧ a ≤ 9223372036854775807) (hb : -9223372036854775808 ≤ b ∧ b ≤ 9223372036854775807) (h0 : b ≠ 0) :
    wrap64 (uM (a.tmod b)) = a.tmod b ∧ (0 ≤ a → 0 ≤ a.tmod b) ∧ (a ≤ 0 → a.tmod b ≤ 0) ∧ (0 < b → a.tmod b < b ∧ -b < a.tmod b) ∧ (b < 0 → b < a.tmod b ∧ a.tmod b < -b) ∧ wrap64 (wrap64 (wrap64 (uM (a.tdiv b)) * b) + a.tmod b) = a := by
  have e : b * a.tdiv b + a.tmod b = a := Int.mul_tdiv_add_tmod a b
  have s1 : 0 ≤ a → 0 ≤ a.tmod b := fun h => Int.tmod_nonneg b h
  have s2 : a ≤ 0 → a.tmod b ≤ 0 := fun h => by
    have := Int.tmod_nonneg b (show 0 ≤ -a by omega)
    rw [Int.neg_tmod] at this; omega
  have s3 : 0 < b → a.tmod b < b ∧ -b < a.tmod b := fun h => by
    refine ⟨Int.tmod_lt_of_pos a h, ?_⟩
    have := Int.tmod_lt_of_pos (-a) h
    rw [Int.neg_tmod] at this; omega
  have s4 : b < 0 → b < a.tmod b ∧ a.tmod b < -b := fun h => by
    have h1 := Int.tmod_lt_of_pos a (show 0 < -b by omega)
    have h2 := Int.tmod_lt_of_pos (-a) (show 0 < -b by omega)
    rw [Int.tmod_neg] at h1 h2
    rw [Int.neg_tmod] at h2
    omega
  have bd : -9223372036854775808 ≤ a.tmod b ∧ a.tmod b ≤ 9223372036854775807 := by
    rcases (show 0 < b ∨ b < 0 by omega) with q | q
    · have := s3 q; omega
    · have := s4 q; omega
  refine ⟨by rw [wrap_uM, wrap_of bd], s1, s2, s3, s4, ?_⟩
  rw [wrap_uM]
  have k : wrap64 (wrap64 (wrap64 (a.tdiv b) * b) + a.tmod b) = wrap64 (b * a.tdiv b + a.tmod b) := by
    have f : ∀ x y : Int, wrap64 (wrap64 x + y) = wrap64 (x + y) := fun x y => by unfold wrap64; omega
    rw [f]
    have g : wrap64 (wrap64 (a.tdiv b) * b + a.tmod b) = wrap64 (a.tdiv b * b + a.tmod b) := by
      obtain ⟨z, hz⟩ : ∃ z, wrap64 (a.tdiv b) = a.tdiv b + 18446744073709551616 * z := ⟨-((a.tdiv b + 9223372036854775808) / 18446744073709551616), by unfold wrap64; omega⟩
      rw [hz, Int.add_mul, Int.mul_assoc]
      generalize z * b = v
      generalize a.tdiv b * b = u
      unfold wrap64; omega
    rw [g, Int.mul_comm]
  rw [k, e, wrap_of ha]
set_option maxHeartbeats 1000000 in
theorem valueDivides_any (a b : Int) (w : World) (ha : -9223372036854775808 ≤ a ∧ a ≤ 9223372036854775807) (hb : -9223372036854775808 ≤ b ∧ b ≤ 9223372036854775807) : Calls Try.prog 6 #[.int .i64 a, .int .i64 b] w fun e w' => e = .returned (.bool true) ∧ Below w.heap.size w w' := by
  by_cases h0 : b = 0
  · subst h0; exact valueDivides_zero a w
  have hw : ∀ i : Int, (-9223372036854775808 ≤ i ∧ i ≤ 9223372036854775807) → wrap64 (IntKind.u64.wrap i) = i := fun i h => by rw [u64_uM, wrap_uM, wrap_of h]
  have hB0 : IntKind.u64.wrap b ≠ 0 := fun e => h0 (by rw [← hw b hb, e]; exact wrap_of (by omega))
  have H3 := fun w => binary_any 3 0 (IntKind.u64.wrap a) 0 (IntKind.u64.wrap b) w u64_in' u64_in'
  have H4 := fun w => binary_any 4 0 (IntKind.u64.wrap a) 0 (IntKind.u64.wrap b) w u64_in' u64_in'
  rw [bin_int (by decide), show intBad 3 (IntKind.u64.wrap b) = false by rw [bad_of, decide_eq_false_iff_not]; exact fun h => hB0 h.2] at H3
  rw [bin_int (by decide), show intBad 4 (IntKind.u64.wrap b) = false by rw [bad_of, decide_eq_false_iff_not]; exact fun h => hB0 h.2] at H4
  simp only [Bool.false_eq_true, if_false] at H3 H4
  rw [show intO 3 (IntKind.u64.wrap a) (IntKind.u64.wrap b) = uM (a.tdiv b) by show uM ((wrap64 (IntKind.u64.wrap a)).tdiv (wrap64 (IntKind.u64.wrap b))) = _; rw [hw a ha, hw b hb]] at H3
  rw [show intO 4 (IntKind.u64.wrap a) (IntKind.u64.wrap b) = uM (a.tmod b) by show uM ((wrap64 (IntKind.u64.wrap a)).tmod (wrap64 (IntKind.u64.wrap b))) = _; rw [hw a ha, hw b hb]] at H4
  obtain ⟨x1, x2, x3, x4, x5, x6⟩ := div_facts ha hb h0
  obtain ⟨X, hX⟩ : ∃ X, X = a.tmod b := ⟨_, rfl⟩
  rw [← hX] at x2 x3 x4 x5 x6
  obtain ⟨Q, hQ⟩ : ∃ Q, Q = uM (a.tdiv b) := ⟨_, rfl⟩
  rw [← hQ] at x6
  simp only [← hQ] at H3
  have G3 := Lib.hid H3
  have X6 := Lib.hid x6
  obtain ⟨R, hR⟩ : ∃ R, R = uM (a.tmod b) := ⟨_, rfl⟩
  simp only [← hR] at H4
  rw [← hR, ← hX] at x1
  have G4 := Lib.hid H4
  have X1 := Lib.hid x1
  clear hQ hR
  clear H3 H4 x1 hX x6 hw hB0
  have t0 : (b == 0) = false := beq_false_of_ne h0
  have b1 := hb.1
  have b2 := hb.2
  clear hb
  by_cases hm : b = -9223372036854775808
  · subst hm
    have HM : Hid True := Lib.hid trivial
    go_enter Try.func6, Try.ntmps6
    go_wp2_with fail
    refine (ofInt_any _ _).mono ?_
    rintro e w1 ⟨rfl, hb1⟩
    go_wp2_with fail
    refine (ofInt_any _ _).mono ?_
    rintro e w2 ⟨rfl, hb2⟩
    go_wp2_with fail
    refine (G3.out _).mono ?_
    rintro e w3 ⟨rfl, hb3⟩
    unfold valV
    have hq := b_call (b_call hb1 hb2) hb3
    clear hb1 hb2 hb3
    have Q3 := blk_new w3 #[.int .i64 0, .int .u64 Q] 25
    go_wp2_with fail
    refine (ofInt_any _ _).mono ?_
    rintro e w4 ⟨rfl, hb4⟩
    go_wp2_with fail
    refine (ofInt_any _ _).mono ?_
    rintro e w5 ⟨rfl, hb5⟩
    go_wp2_with fail
    refine (G4.out _).mono ?_
    rintro e w6 ⟨rfl, hb6⟩
    unfold valV
    have hr := b_call (b_call hb4 hb5) hb6
    clear hb4 hb5 hb6
    have Q6 := blk_alloc (blk_below Q3 hr) (.cells #[.int .i64 0, .int .u64 R] 25)
    go_wp2_with fail
    refine (int64_any _ _ _).mono ?_
    rintro e w7 ⟨rfl, hb7⟩
    rw [X1.out]
    obtain ⟨c0, c1, cf⟩ := blk2 (blk_below Q6 hb7)
    clear Q3 Q6
    go_wp2_with fail
    all_goals first
      | (exfalso; omega)
      | (have hm2 := HM.out; exfalso; omega)
      | (refine (int64_any _ _ _).mono ?_
         rintro e w8 ⟨rfl, hb8⟩
         have x6 := X6.out
         go_wp2_with fail
         refine (awake23 _).mono ?_
         rintro e w9 ⟨rfl, hb9⟩
         go_wp2_with fail
         go_ret
         exact ⟨rfl, b_call (b_call (b_call (b_alloc (b_call (b_alloc hq _) hr) _) hb7) hb8) hb9⟩)
  have hm' : (b != -9223372036854775808) = true := by rw [bne_iff_ne]; exact hm
  have HM := Lib.hid hm
  replace b1 : -9223372036854775807 ≤ b := by omega
  clear hm
  go_enter Try.func6, Try.ntmps6
  go_wp2_with fail
  refine (ofInt_any _ _).mono ?_
  rintro e w1 ⟨rfl, hb1⟩
  go_wp2_with fail
  refine (ofInt_any _ _).mono ?_
  rintro e w2 ⟨rfl, hb2⟩
  go_wp2_with fail
  refine (G3.out _).mono ?_
  rintro e w3 ⟨rfl, hb3⟩
  unfold valV
  have hq := b_call (b_call hb1 hb2) hb3
  clear hb1 hb2 hb3
  have Q3 := blk_new w3 #[.int .i64 0, .int .u64 Q] 25
  go_wp2_with fail
  refine (ofInt_any _ _).mono ?_
  rintro e w4 ⟨rfl, hb4⟩
  go_wp2_with fail
  refine (ofInt_any _ _).mono ?_
  rintro e w5 ⟨rfl, hb5⟩
  go_wp2_with fail
  refine (G4.out _).mono ?_
  rintro e w6 ⟨rfl, hb6⟩
  unfold valV
  have hr := b_call (b_call hb4 hb5) hb6
  clear hb4 hb5 hb6
  have Q6 := blk_alloc (blk_below Q3 hr) (.cells #[.int .i64 0, .int .u64 R] 25)
  go_wp2_with fail
  refine (int64_any _ _ _).mono ?_
  rintro e w7 ⟨rfl, hb7⟩
  rw [X1.out]
  obtain ⟨c0, c1, cf⟩ := blk2 (blk_below Q6 hb7)
  clear Q3 Q6
  go_wp2_with fail
  all_goals first
    | (exfalso; omega)
    | (have hm2 := HM.out; exfalso; omega)
    | (refine (int64_any _ _ _).mono ?_
       rintro e w8 ⟨rfl, hb8⟩
       have x6 := X6.out
       go_wp2_with fail
       refine (awake23 _).mono ?_
       rintro e w9 ⟨rfl, hb9⟩
       go_wp2_with fail
       go_ret
       exact ⟨rfl, b_call (b_call (b_call (b_alloc (b_call (b_alloc hq _) hr) _) hb7) hb8) hb9⟩)
end Go.Proofs.Ytgiegfgoglhnoaa
