/- Layer 23: what two ints make by an operation: ours. Conditions: words have 64 bits. -/
import Derived.Test.YtgiegfgoglhnoaaVal4
import Derived.Test.YtgiegfgoglhnoaaVInt
namespace Go.Proofs.Ytgiegfgoglhnoaa
open Go.RowKit
set_option linter.unusedVariables false
set_option linter.unusedSimpArgs false
theorem bits48_any (op A B : Int) (w : World) (h5 : 5 ≤ op) (h9 : op ≤ 9) (hA : U64 A) (hB : U64 B) : Calls Try.prog 48 #[.int .i64 op, .int .u64 A, .int .u64 B] w fun e w' => e = .returned (.int .u64 (intO op A B)) ∧ w = w' := by
  have h63 := and63 hB
  have hs1 := fun w => run_shl (P := Try.prog) A B w
  have hs2 := fun w => run_shr (P := Try.prog) (wrap64 A) B w
  clear hA hB
  rcases (show op = 5 ∨ op = 6 ∨ op = 7 ∨ op = 8 ∨ op = 9 by omega) with rfl | rfl | rfl | rfl | rfl
  · clear h63 hs1 hs2
    go_enter Try.func48, Try.ntmps48
    go_wp2_with fail
    go_ret
    exact ⟨rfl, rfl⟩
  · clear h63 hs1 hs2
    go_enter Try.func48, Try.ntmps48
    go_wp2_with fail
    go_ret
    exact ⟨rfl, rfl⟩
  · clear h63 hs1 hs2
    go_enter Try.func48, Try.ntmps48
    go_wp2_with fail
    go_ret
    exact ⟨rfl, rfl⟩
  · go_enter Try.func48, Try.ntmps48
    go_wp2_with fail
    go_ret
    exact ⟨rfl, rfl⟩
  · go_enter Try.func48, Try.ntmps48
    go_wp2_with fail
    go_ret
    exact ⟨by rw [show intO 9 A B = uM (wrap64 A / 2 ^ (B % 64).toNat) from rfl, ← u64_uM]; rfl, rfl⟩
theorem divided_any (op a b : Int) (w : World) (ho : op = 3 ∨ op = 4) (ha : -9223372036854775808 ≤ a ∧ a ≤ 9223372036854775807) (hb : -9223372036854775808 ≤ b ∧ b ≤ 9223372036854775807) : Calls Try.prog 47 #[.int .i64 op, .int .i64 a, .int .i64 b] w fun e w' => e = .returned (.tuple #[valV 0 (if b = 0 then 0 else if op = 3 then uM (a.tdiv b) else uM (a.tmod b)), .int .i64 (if b = 0 then 2 else 0)]) ∧ Below w.heap.size w w' := by
  by_cases h0 : b = 0
  · subst h0
    simp only [if_true]
    clear ho ha hb
    go_enter Try.func47, Try.ntmps47
    go_wp2_with fail
    exact bodyPost_ret (v := .tuple #[valV 0 0, .int .i64 2]) (by simp [results, Try.results47, go_sem, valV]) rfl ⟨rfl, by (repeat' (first | exact Below.refl _ _ | assumption | refine b_alloc ?_ _ | refine b_over ?_ _ | refine b_drew ?_ | refine b_call ?_ (by assumption)))⟩
  · simp only [if_neg h0]
    have t0 : (b == 0) = false := beq_false_of_ne h0
    by_cases h1 : b = -1
    · subst h1
      rcases ho with rfl | rfl
      · clear ha hb h0 t0
        go_enter Try.func47, Try.ntmps47
        go_wp2_with fail
        refine (ofInt_any _ _).mono ?_
        rintro e w1 ⟨rfl, hb1⟩
        rw [u64_uM, uM_wrap]
        obtain ⟨c0, c1, cf⟩ := blk2 (blk_born hb1)
        unfold valV
        go_wp2_with fail
        exact bodyPost_ret (v := .tuple #[valV 0 (uM (-a)), .int .i64 0]) (by simp [results, Try.results47, go_sem, valV, c0, c1, cf]) rfl ⟨rfl, b_set (b_set (b_call (b_alloc (Below.refl _ _) _) hb1) (Nat.le_refl _) _) (Nat.le_refl _) _⟩
      · clear ha hb h0 t0
        go_enter Try.func47, Try.ntmps47
        go_wp2_with fail
        refine (ofInt_any _ _).mono ?_
        rintro e w1 ⟨rfl, hb1⟩
        rw [u64_uM]
        obtain ⟨c0, c1, cf⟩ := blk2 (blk_born hb1)
        unfold valV
        go_wp2_with fail
        exact bodyPost_ret (v := .tuple #[valV 0 (uM 0), .int .i64 0]) (by simp [results, Try.results47, go_sem, valV, c0, c1, cf]) rfl ⟨rfl, b_set (b_set (b_call (b_alloc (Below.refl _ _) _) hb1) (Nat.le_refl _) _) (Nat.le_refl _) _⟩
    · have t1 : (b == -1) = false := beq_false_of_ne h1
      rcases ho with rfl | rfl
      · clear ha hb h1
        go_enter Try.func47, Try.ntmps47
        go_wp2_with fail
        refine (ofInt_any _ _).mono ?_
        rintro e w1 ⟨rfl, hb1⟩
        rw [u64_uM, uM_wrap]
        obtain ⟨c0, c1, cf⟩ := blk2 (blk_born hb1)
        unfold valV
        go_wp2_with fail
        exact bodyPost_ret (v := .tuple #[valV 0 (uM (a.tdiv b)), .int .i64 0]) (by simp [results, Try.results47, go_sem, valV, c0, c1, cf]) rfl ⟨rfl, b_set (b_set (b_call (b_alloc (Below.refl _ _) _) hb1) (Nat.le_refl _) _) (Nat.le_refl _) _⟩
      · clear ha hb h1
        go_enter Try.func47, Try.ntmps47
        go_wp2_with fail
        refine (ofInt_any _ _).mono ?_
        rintro e w1 ⟨rfl, hb1⟩
        rw [u64_uM]
        obtain ⟨c0, c1, cf⟩ := blk2 (blk_born hb1)
        unfold valV
        go_wp2_with fail
        exact bodyPost_ret (v := .tuple #[valV 0 (uM (a.tmod b)), .int .i64 0]) (by simp [results, Try.results47, go_sem, valV, c0, c1, cf]) rfl ⟨rfl, b_set (b_set (b_call (b_alloc (Below.refl _ _) _) hb1) (Nat.le_refl _) _) (Nat.le_refl _) _⟩
theorem rsize53_any (A : Int) (w : World) (hA : U64 A) : Calls Try.prog 53 #[.int .u64 A] w fun e w' => e = .returned (.tuple #[.int .u64 (sizeS A), .bool (decide (wrap64 A < 0))]) ∧ w = w' := by
  rcases (show A < 9223372036854775808 ∨ 9223372036854775808 ≤ A by omega) with h | h
  · have t : (A / 9223372036854775808 == 1) = false := beq_false_of_ne (by unfold U64 at hA; omega)
    have e1 := size_low hA h
    have e2 : Hid (sizeS A = A) := Lib.hid (by unfold sizeS; rw [e1, if_neg (by unfold U64 at hA; omega)])
    have e3 : Hid (decide (wrap64 A < 0) = false) := Lib.hid (by rw [e1, decide_eq_false_iff_not]; unfold U64 at hA; omega)
    clear e1 h hA
    go_enter Try.func53, Try.ntmps53
    go_wp2_with fail
    go_ret2
    exact ⟨by rw [e2.out, e3.out]; first | done | rfl, rfl⟩
  · have t : (A / 9223372036854775808 == 1) = true := beq_iff_eq.2 (by unfold U64 at hA; omega)
    have e1 := size_high hA h
    have e2 : Hid (sizeS A = IntKind.u64.wrap (-A)) := Lib.hid (by rw [u64_uM]; unfold sizeS uM; rw [e1, if_pos (by unfold U64 at hA; omega)]; unfold U64 at hA; omega)
    have e3 : Hid (decide (wrap64 A < 0) = true) := Lib.hid (by rw [e1, decide_eq_true_iff]; unfold U64 at hA; omega)
    clear e1 h hA
    go_enter Try.func53, Try.ntmps53
    go_wp2_with fail
    go_ret2
    exact ⟨by rw [e2.out, e3.out]; first | done | rfl, rfl⟩
theorem rdiv_no (op A : Int) (w : World) : Calls Try.prog 32 #[.int .i64 op, .int .u64 A, .int .u64 0] w fun e w' => e = .returned (.tuple #[.int .u64 0, .bool false]) ∧ Below w.heap.size w w' := by
  go_enter Try.func32, Try.ntmps32
  go_wp2_with fail
  go_ret2
  exact ⟨rfl, Below.refl _ _⟩
theorem rdiv_any (op A B : Int) (w : World) (ho : op = 3 ∨ op = 4) (hA : U64 A) (hB : U64 B) (h0 : B ≠ 0) : Calls Try.prog 32 #[.int .i64 op, .int .u64 A, .int .u64 B] w fun e w' => e = .returned (.tuple #[.int .u64 (intO op A B), .bool true]) ∧ Below w.heap.size w w' := by
  obtain ⟨d1, d2, p1, p2, p3, p4⟩ := div_eq hA hB h0
  have SA := fun w => Lib.hid (rsize53_any A w hA)
  have SB := fun w => Lib.hid (rsize53_any B w hB)
  have t0 : (B == 0) = false := beq_false_of_ne h0
  have i3 : intO 3 A B = uM ((wrap64 A).tdiv (wrap64 B)) := rfl
  have i4 : intO 4 A B = uM ((wrap64 A).tmod (wrap64 B)) := rfl
  rw [d1] at i3
  rw [d2] at i4
  clear d1 d2 hA hB h0
  generalize sizeS A = x at *
  generalize sizeS B = y at *
  have y1 : (1 : Int) ≤ y := by omega
  have y0 : ¬ y = 0 := by omega
  have hx1 : x / y ≤ x := Int.ediv_le_self y p2
  have hx0 : 0 ≤ x / y := Int.ediv_nonneg p2 (by omega)
  have hr0 : 0 ≤ x % y := Int.emod_nonneg _ (by omega)
  have hr1 : x % y < y := Int.emod_lt_of_pos _ (by omega)
  have EQ : Hid (IntKind.u64.wrap (x.tdiv y) = x / y) := Lib.hid (by rw [u64_uM, Int.tdiv_eq_ediv_of_nonneg p2]; unfold uM; omega)
  have ER : Hid (x.tmod y = x % y) := Lib.hid (Int.tmod_eq_emod_of_nonneg p2)
  by_cases ha : wrap64 A < 0
  · rw [if_pos ha] at i4
    rw [decide_eq_true ha] at i3 SA
    by_cases hb : wrap64 B < 0
    · rw [decide_eq_true hb] at i3 SB
      rw [if_neg (by simp)] at i3
      have I3 := Lib.hid i3; have I4 := Lib.hid i4
      clear i3 i4 ha hb
      rcases ho with rfl | rfl
      · go_enter Try.func32, Try.ntmps32
        go_wp2_with fail
        refine (SA _).out.mono ?_
        rintro e w1 ⟨rfl, rfl⟩
        go_wp2_with fail
        refine (SB _).out.mono ?_
        rintro e w1 ⟨rfl, rfl⟩
        go_wp2_with fail
        refine wp_region_over_lit (by kernel_rfl) (by kernel_rfl) ?_
        repeat (quiet_step (fail))
        refine wpQuiet_nil ?_
        intro w9 hb9; replace hb9 := over_elim hb9; obtain ⟨hc9, hf9⟩ := bcell hb9; have hz9 := hb9.size; try simp only [World.size_alloc, World.size_setCell, World.size_drew] at hz9
        simp only [EQ.out, ER.out]
        go_wp2_with fail
        go_ret2
        exact ⟨by first | (rw [I3.out]; done) | (rw [I3.out]; rfl) | (rw [I3.out, ← u64_uM, Int.zero_sub]; done) | (rw [I3.out, ← u64_uM, Int.zero_sub]; rfl), hb9⟩
      · go_enter Try.func32, Try.ntmps32
        go_wp2_with fail
        refine (SA _).out.mono ?_
        rintro e w1 ⟨rfl, rfl⟩
        go_wp2_with fail
        refine (SB _).out.mono ?_
        rintro e w1 ⟨rfl, rfl⟩
        go_wp2_with fail
        refine wp_region_over_lit (by kernel_rfl) (by kernel_rfl) ?_
        repeat (quiet_step (fail))
        refine wpQuiet_nil ?_
        intro w9 hb9; replace hb9 := over_elim hb9; obtain ⟨hc9, hf9⟩ := bcell hb9; have hz9 := hb9.size; try simp only [World.size_alloc, World.size_setCell, World.size_drew] at hz9
        simp only [EQ.out, ER.out]
        go_wp2_with fail
        go_ret2
        exact ⟨by first | (rw [I4.out]; done) | (rw [I4.out]; rfl) | (rw [I4.out, ← u64_uM, Int.zero_sub]; done) | (rw [I4.out, ← u64_uM, Int.zero_sub]; rfl), hb9⟩
    · rw [decide_eq_false hb] at i3 SB
      rw [if_pos (by rfl)] at i3
      have I3 := Lib.hid i3; have I4 := Lib.hid i4
      clear i3 i4 ha hb
      rcases ho with rfl | rfl
      · go_enter Try.func32, Try.ntmps32
        go_wp2_with fail
        refine (SA _).out.mono ?_
        rintro e w1 ⟨rfl, rfl⟩
        go_wp2_with fail
        refine (SB _).out.mono ?_
        rintro e w1 ⟨rfl, rfl⟩
        go_wp2_with fail
        refine wp_region_over_lit (by kernel_rfl) (by kernel_rfl) ?_
        repeat (quiet_step (fail))
        refine wpQuiet_nil ?_
        intro w9 hb9; replace hb9 := over_elim hb9; obtain ⟨hc9, hf9⟩ := bcell hb9; have hz9 := hb9.size; try simp only [World.size_alloc, World.size_setCell, World.size_drew] at hz9
        simp only [EQ.out, ER.out]
        go_wp2_with fail
        go_ret2
        exact ⟨by first | (rw [I3.out]; done) | (rw [I3.out]; rfl) | (rw [I3.out, ← u64_uM, Int.zero_sub]; done) | (rw [I3.out, ← u64_uM, Int.zero_sub]; rfl), hb9⟩
      · go_enter Try.func32, Try.ntmps32
        go_wp2_with fail
        refine (SA _).out.mono ?_
        rintro e w1 ⟨rfl, rfl⟩
        go_wp2_with fail
        refine (SB _).out.mono ?_
        rintro e w1 ⟨rfl, rfl⟩
        go_wp2_with fail
        refine wp_region_over_lit (by kernel_rfl) (by kernel_rfl) ?_
        repeat (quiet_step (fail))
        refine wpQuiet_nil ?_
        intro w9 hb9; replace hb9 := over_elim hb9; obtain ⟨hc9, hf9⟩ := bcell hb9; have hz9 := hb9.size; try simp only [World.size_alloc, World.size_setCell, World.size_drew] at hz9
        simp only [EQ.out, ER.out]
        go_wp2_with fail
        go_ret2
        exact ⟨by first | (rw [I4.out]; done) | (rw [I4.out]; rfl) | (rw [I4.out, ← u64_uM, Int.zero_sub]; done) | (rw [I4.out, ← u64_uM, Int.zero_sub]; rfl), hb9⟩
  · rw [if_neg ha] at i4
    rw [decide_eq_false ha] at i3 SA
    by_cases hb : wrap64 B < 0
    · rw [decide_eq_true hb] at i3 SB
      rw [if_pos (by rfl)] at i3
      have I3 := Lib.hid i3; have I4 := Lib.hid i4
      clear i3 i4 ha hb
      rcases ho with rfl | rfl
      · go_enter Try.func32, Try.ntmps32
        go_wp2_with fail
        refine (SA _).out.mono ?_
        rintro e w1 ⟨rfl, rfl⟩
        go_wp2_with fail
        refine (SB _).out.mono ?_
        rintro e w1 ⟨rfl, rfl⟩
        go_wp2_with fail
        refine wp_region_over_lit (by kernel_rfl) (by kernel_rfl) ?_
        repeat (quiet_step (fail))
        refine wpQuiet_nil ?_
        intro w9 hb9; replace hb9 := over_elim hb9; obtain ⟨hc9, hf9⟩ := bcell hb9; have hz9 := hb9.size; try simp only [World.size_alloc, World.size_setCell, World.size_drew] at hz9
        simp only [EQ.out, ER.out]
        go_wp2_with fail
        go_ret2
        exact ⟨by first | (rw [I3.out]; done) | (rw [I3.out]; rfl) | (rw [I3.out, ← u64_uM, Int.zero_sub]; done) | (rw [I3.out, ← u64_uM, Int.zero_sub]; rfl), hb9⟩
      · go_enter Try.func32, Try.ntmps32
        go_wp2_with fail
        refine (SA _).out.mono ?_
        rintro e w1 ⟨rfl, rfl⟩
        go_wp2_with fail
        refine (SB _).out.mono ?_
        rintro e w1 ⟨rfl, rfl⟩
        go_wp2_with fail
        refine wp_region_over_lit (by kernel_rfl) (by kernel_rfl) ?_
        repeat (quiet_step (fail))
        refine wpQuiet_nil ?_
        intro w9 hb9; replace hb9 := over_elim hb9; obtain ⟨hc9, hf9⟩ := bcell hb9; have hz9 := hb9.size; try simp only [World.size_alloc, World.size_setCell, World.size_drew] at hz9
        simp only [EQ.out, ER.out]
        go_wp2_with fail
        go_ret2
        exact ⟨by first | (rw [I4.out]; done) | (rw [I4.out]; rfl) | (rw [I4.out, ← u64_uM, Int.zero_sub]; done) | (rw [I4.out, ← u64_uM, Int.zero_sub]; rfl), hb9⟩
    · rw [decide_eq_false hb] at i3 SB
      rw [if_neg (by simp)] at i3
      have I3 := Lib.hid i3; have I4 := Lib.hid i4
      clear i3 i4 ha hb
      rcases ho with rfl | rfl
      · go_enter Try.func32, Try.ntmps32
        go_wp2_with fail
        refine (SA _).out.mono ?_
        rintro e w1 ⟨rfl, rfl⟩
        go_wp2_with fail
        refine (SB _).out.mono ?_
        rintro e w1 ⟨rfl, rfl⟩
        go_wp2_with fail
        refine wp_region_over_lit (by kernel_rfl) (by kernel_rfl) ?_
        repeat (quiet_step (fail))
        refine wpQuiet_nil ?_
        intro w9 hb9; replace hb9 := over_elim hb9; obtain ⟨hc9, hf9⟩ := bcell hb9; have hz9 := hb9.size; try simp only [World.size_alloc, World.size_setCell, World.size_drew] at hz9
        simp only [EQ.out, ER.out]
        go_wp2_with fail
        go_ret2
        exact ⟨by first | (rw [I3.out]; done) | (rw [I3.out]; rfl) | (rw [I3.out, ← u64_uM, Int.zero_sub]; done) | (rw [I3.out, ← u64_uM, Int.zero_sub]; rfl), hb9⟩
      · go_enter Try.func32, Try.ntmps32
        go_wp2_with fail
        refine (SA _).out.mono ?_
        rintro e w1 ⟨rfl, rfl⟩
        go_wp2_with fail
        refine (SB _).out.mono ?_
        rintro e w1 ⟨rfl, rfl⟩
        go_wp2_with fail
        refine wp_region_over_lit (by kernel_rfl) (by kernel_rfl) ?_
        repeat (quiet_step (fail))
        refine wpQuiet_nil ?_
        intro w9 hb9; replace hb9 := over_elim hb9; obtain ⟨hc9, hf9⟩ := bcell hb9; have hz9 := hb9.size; try simp only [World.size_alloc, World.size_setCell, World.size_drew] at hz9
        simp only [EQ.out, ER.out]
        go_wp2_with fail
        go_ret2
        exact ⟨by first | (rw [I4.out]; done) | (rw [I4.out]; rfl) | (rw [I4.out, ← u64_uM, Int.zero_sub]; done) | (rw [I4.out, ← u64_uM, Int.zero_sub]; rfl), hb9⟩
theorem rint8 (A B : Int) (w : World) (hA : U64 A) (hB : U64 B) : Calls Try.prog 18 #[.int .i64 8, .int .u64 A, .int .u64 B] w fun e w' => e = .returned (.tuple #[.int .u64 (intO 8 A B), .bool true]) ∧ Below w.heap.size w w' := by
  obtain ⟨n, hn⟩ : ∃ n : Nat, B % 64 = (n : Int) := ⟨(B % 64).toNat, by omega⟩
  have n64 : n < 64 := by omega
  have HF : Hid (intO 8 A B = uM (A * 2 ^ n)) := Lib.hid (by show uM (A * 2 ^ (B % 64).toNat) = _; rw [hn, Int.toNat_natCast])
  have H0 : Hid (A = uM (A * 2 ^ 0)) := Lib.hid (by rw [Int.pow_zero, Int.mul_one, uM_of hA])
  have b0 := hB.1
  have b1 := hB.2
  have B1 := Lib.hid b1
  clear hA hB b1
  go_enter Try.func18, Try.ntmps18
  go_wp2_with fail
  go_loop [1, 8] (fun a i => ∃ k : Nat, k ≤ n ∧ i = .int .u64 k ∧ a = .int .u64 (uM (A * 2 ^ k))) (fun _ i => n - (intOf i).toNat)
  case atStart => exact ⟨0, by omega, rfl, by rw [← H0.out]⟩
  case round =>
    obtain ⟨k, hk, rfl, rfl⟩ := hrel
    by_cases hlt : k < n
    · have hst : Hid (uM (uM (A * 2 ^ k) * 2) = uM (A * 2 ^ (k + 1))) := Lib.hid (shl_step A k)
      obtain ⟨u1, u2⟩ := uM_in (A * 2 ^ k)
      obtain ⟨t, ht⟩ : ∃ t, t = uM (A * 2 ^ k) := ⟨_, rfl⟩
      rw [← ht] at hst u1 u2 ⊢
      have HT := Lib.hid ht
      have U2 := Lib.hid u2
      clear ht u2
      have k1 : (k : Int) < n := by omega
      go_wp2_with fail
      exact ⟨⟨k + 1, by omega, by rw [Int.natCast_succ], by rw [u64_uM, hst.out]⟩, by simp [intOf]; omega⟩
    · obtain rfl : k = n := by omega
      go_wp2_with fail
      go_ret2
      exact ⟨by rw [HF.out]; first | done | rfl, Below.refl _ _⟩
theorem rint9 (A B : Int) (w : World) (hA : U64 A) (hB : U64 B) : Calls Try.prog 18 #[.int .i64 9, .int .u64 A, .int .u64 B] w fun e w' => e = .returned (.tuple #[.int .u64 (intO 9 A B), .bool true]) ∧ Below w.heap.size w w' := by
  obtain ⟨n, hn⟩ : ∃ n : Nat, B % 64 = (n : Int) := ⟨(B % 64).toNat, by omega⟩
  have n64 : n < 64 := by omega
  have HF : Hid (intO 9 A B = uM (wrap64 A / 2 ^ n)) := Lib.hid (by show uM (wrap64 A / 2 ^ (B % 64).toNat) = _; rw [hn, Int.toNat_natCast])
  have H0 : Hid (A = uM (wrap64 A / 2 ^ 0)) := Lib.hid (by rw [Int.pow_zero, Int.ediv_one, uM_wrap, uM_of hA])
  have b0 := hB.1
  have b1 := hB.2
  have B1 := Lib.hid b1
  clear hA hB b1
  go_enter Try.func18, Try.ntmps18
  go_wp2_with fail
  go_loop [1, 9] (fun a i => ∃ k : Nat, k ≤ n ∧ i = .int .u64 k ∧ a = .int .u64 (uM (wrap64 A / 2 ^ k))) (fun _ i => n - (intOf i).toNat)
  case atStart => exact ⟨0, by omega, rfl, by rw [← H0.out]⟩
  case round =>
    obtain ⟨k, hk, rfl, rfl⟩ := hrel
    by_cases hlt : k < n
    · have hst : Hid (uM (wrap64 A / 2 ^ k) / 2 + uM (wrap64 A / 2 ^ k) / 9223372036854775808 * 9223372036854775808 = uM (wrap64 A / 2 ^ (k + 1))) := Lib.hid (sar_step (wrap_bd A) k)
      obtain ⟨u1, u2⟩ := uM_in (wrap64 A / 2 ^ k)
      obtain ⟨t, ht⟩ : ∃ t, t = uM (wrap64 A / 2 ^ k) := ⟨_, rfl⟩
      rw [← ht] at hst u1 u2 ⊢
      have HT := Lib.hid ht
      have U2 := Lib.hid u2
      clear ht u2
      have k1 : (k : Int) < n := by omega
      go_wp2_with fail
      have e9 : IntKind.u64.wrap (IntKind.u64.wrap (t.tdiv 2) + IntKind.u64.wrap (t / 9223372036854775808 * 9223372036854775808)) = uM (wrap64 A / 2 ^ (k + 1)) := by
        have q := (uM_in (wrap64 A / 2 ^ (k + 1))).2
        rw [← hst.out] at q ⊢
        rw [u64_uM, u64_uM, u64_uM, Int.tdiv_eq_ediv_of_nonneg u1]
        have := U2.out
        unfold uM; omega
      exact ⟨⟨k + 1, by omega, by rw [Int.natCast_succ], by rw [e9]⟩, by simp [intOf]; omega⟩
    · obtain rfl : k = n := by omega
      go_wp2_with fail
      go_ret2
      exact ⟨by rw [HF.out]; first | done | rfl, Below.refl _ _⟩
end Go.Proofs.Ytgiegfgoglhnoaa
