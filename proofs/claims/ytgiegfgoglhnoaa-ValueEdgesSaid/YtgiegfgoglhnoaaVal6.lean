/- Layer 23: what two ints make by an operation, whole: ours and the document's. Conditions: words have 64 bits. -/
import Derived.Test.YtgiegfgoglhnoaaVal5
namespace Go.Proofs.Ytgiegfgoglhnoaa
open Go.RowKit
set_option linter.unusedVariables false
set_option linter.unusedSimpArgs false
theorem truthI_eq (q : Bool) : truthI q = tI q := by cases q <;> rfl
theorem xor_sign {A : Int} (h : U64 A) : bits .xor .u64 A 9223372036854775808 = uM (A + 9223372036854775808) := by
  obtain ⟨h1, h2⟩ := h
  obtain ⟨a, rfl⟩ := Int.eq_ofNat_of_zero_le h1
  have e := u64_xor_nat a 9223372036854775808 (by omega) (by omega)
  have e2 := negN_eq (b := a) (by omega)
  unfold negN at e2
  rw [show (2 ^ 63 : Nat) = 9223372036854775808 from rfl] at e2
  rw [e2] at e
  rw [show ((9223372036854775808 : Nat) : Int) = (9223372036854775808 : Int) from rfl] at e
  rw [e]
  unfold uM
  split <;> omega
theorem sign_lt {A B : Int} (hA : U64 A) (hB : U64 B) : decide (uM (A + 9223372036854775808) < uM (B + 9223372036854775808)) = decide (wrap64 A < wrap64 B) := by
  unfold U64 at hA hB
  unfold uM wrap64
  rw [Bool.eq_iff_iff, decide_eq_true_iff, decide_eq_true_iff]; omega
theorem wrap_eq {A B : Int} (hA : U64 A) (hB : U64 B) : (wrap64 A == wrap64 B) = (A == B) := by
  unfold U64 at hA hB
  unfold wrap64
  rw [Bool.eq_iff_iff, beq_iff_eq, beq_iff_eq]; omega
theorem wrap_zero {B : Int} (hB : U64 B) : wrap64 B = 0 ↔ B = 0 := by
  unfold U64 at hB
  unfold wrap64; omega
theorem bad_of {op B : Int} : intBad op B = decide ((op = 3 ∨ op = 4) ∧ B = 0) := by
  unfold intBad
  rw [Bool.eq_iff_iff, decide_eq_true_iff]
  simp
theorem rint_bad (op A B : Int) (w : World) (hb : intBad op B = true) : Calls Try.prog 18 #[.int .i64 op, .int .u64 A, .int .u64 B] w fun e w' => e = .returned (.tuple #[.int .u64 0, .bool false]) ∧ Below w.heap.size w w' := by
  rw [bad_of, decide_eq_true_iff] at hb
  obtain ⟨ho, rfl⟩ := hb
  rcases ho with rfl | rfl
  · go_enter Try.func18, Try.ntmps18
    go_wp2_with fail
    refine (rdiv_no _ _ _).mono ?_
    rintro e w1 ⟨rfl, hb1⟩
    go_wp2_with fail
    go_ret2
    exact ⟨rfl, hb1⟩
  · go_enter Try.func18, Try.ntmps18
    go_wp2_with fail
    refine (rdiv_no _ _ _).mono ?_
    rintro e w1 ⟨rfl, hb1⟩
    go_wp2_with fail
    go_ret2
    exact ⟨rfl, hb1⟩
theorem rint_any (op A B : Int) (w : World) (h0 : 0 ≤ op) (h1 : op < 12) (hA : U64 A) (hB : U64 B) (hb : intBad op B = false) : Calls Try.prog 18 #[.int .i64 op, .int .u64 A, .int .u64 B] w fun e w' => e = .returned (.tuple #[.int .u64 (intO op A B), .bool true]) ∧ Below w.heap.size w w' := by
  rcases (show op = 0 ∨ op = 1 ∨ op = 2 ∨ op = 3 ∨ op = 4 ∨ op = 5 ∨ op = 6 ∨ op = 7 ∨ op = 8 ∨ op = 9 ∨ op = 10 ∨ op = 11 by omega) with rfl | rfl | rfl | rfl | rfl | rfl | rfl | rfl | rfl | rfl | rfl | rfl
  · clear h0 h1 hb hA hB
    go_enter Try.func18, Try.ntmps18
    go_wp2_with fail
    go_ret2
    exact ⟨by rw [show intO 0 A B = uM (A + B) from rfl, ← u64_uM]; first | done | rfl, Below.refl _ _⟩
  · clear h0 h1 hb hA hB
    go_enter Try.func18, Try.ntmps18
    go_wp2_with fail
    go_ret2
    exact ⟨by rw [show intO 1 A B = uM (A - B) from rfl, ← u64_uM]; first | done | rfl, Below.refl _ _⟩
  · clear h0 h1 hb hA hB
    go_enter Try.func18, Try.ntmps18
    go_wp2_with fail
    go_ret2
    exact ⟨by rw [show intO 2 A B = uM (A * B) from rfl, ← u64_uM]; first | done | rfl, Below.refl _ _⟩
  · have n0 : B ≠ 0 := fun e => by rw [bad_of, decide_eq_false_iff_not] at hb; exact hb ⟨by simp, e⟩
    have HD := fun w => Lib.hid (rdiv_any 3 A B w (by simp) hA hB n0)
    clear h0 h1 hb hA hB n0
    go_enter Try.func18, Try.ntmps18
    go_wp2_with fail
    refine (HD _).out.mono ?_
    rintro e w1 ⟨rfl, hb1⟩
    go_wp2_with fail
    go_ret2
    exact ⟨rfl, hb1⟩
  · have n0 : B ≠ 0 := fun e => by rw [bad_of, decide_eq_false_iff_not] at hb; exact hb ⟨by simp, e⟩
    have HD := fun w => Lib.hid (rdiv_any 4 A B w (by simp) hA hB n0)
    clear h0 h1 hb hA hB n0
    go_enter Try.func18, Try.ntmps18
    go_wp2_with fail
    refine (HD _).out.mono ?_
    rintro e w1 ⟨rfl, hb1⟩
    go_wp2_with fail
    go_ret2
    exact ⟨rfl, hb1⟩
  · clear h0 h1 hb hA hB
    go_enter Try.func18, Try.ntmps18
    go_wp2_with fail
    go_ret2
    exact ⟨rfl, Below.refl _ _⟩
  · clear h0 h1 hb hA hB
    go_enter Try.func18, Try.ntmps18
    go_wp2_with fail
    go_ret2
    exact ⟨rfl, Below.refl _ _⟩
  · clear h0 h1 hb hA hB
    go_enter Try.func18, Try.ntmps18
    go_wp2_with fail
    go_ret2
    exact ⟨rfl, Below.refl _ _⟩
  · exact rint8 A B w hA hB
  · exact rint9 A B w hA hB
  · have x1 := xor_sign hA
    have x2 := xor_sign hB
    have S := Lib.hid (sign_lt hA hB)
    clear h0 h1 hb hA hB
    go_enter Try.func18, Try.ntmps18
    go_wp2_with fail
    refine (one_any _ _).mono ?_
    rintro e w1 ⟨rfl, rfl⟩
    rw [S.out]
    go_wp2_with fail
    go_ret2
    exact ⟨by rw [show intO 10 A B = tI (decide (wrap64 A < wrap64 B)) from rfl, ← truthI_eq]; first | done | rfl, Below.refl _ _⟩
  · clear h0 h1 hb hA hB
    go_enter Try.func18, Try.ntmps18
    go_wp2_with fail
    refine (one_any _ _).mono ?_
    rintro e w1 ⟨rfl, rfl⟩
    go_wp2_with fail
    go_ret2
    exact ⟨by rw [show intO 11 A B = tI (A == B) from rfl, ← truthI_eq]; first | done | rfl, Below.refl _ _⟩
set_option maxHeartbeats 4000000 in
theorem ints_any (op A B : Int) (w : World) (h0 : 0 ≤ op) (h1 : op < 12) (hA : U64 A) (hB : U64 B) : Calls Try.prog 29 #[.int .i64 op, .int .i64 (wrap64 A), .int .i64 (wrap64 B)] w fun e w' => e = .returned (.tuple #[valV 0 (if intBad op B = true then 0 else intO op A B), .int .i64 (if intBad op B = true then 2 else 0)]) ∧ Below w.heap.size w w' := by
  have fa := uM_add (A := A) (B := B)
  have fs := uM_sub (A := A) (B := B)
  have fm := uM_mul hA hB
  have ue := wrap_eq hA hB
  have uz := wrap_zero hB
  have bx := wrap_bd A
  have by' := wrap_bd B
  have cx : IntKind.u64.wrap (wrap64 A) = A := by rw [u64_uM, uM_wrap, uM_of hA]
  have cy : IntKind.u64.wrap (wrap64 B) = B := by rw [u64_uM, uM_wrap, uM_of hB]
  have i3 : intO 3 A B = uM ((wrap64 A).tdiv (wrap64 B)) := rfl
  have i4 : intO 4 A B = uM ((wrap64 A).tmod (wrap64 B)) := rfl
  have i10 : intO 10 A B = tI (decide (wrap64 A < wrap64 B)) := rfl
  have BT := fun op w h5 h9 => Lib.hid (bits48_any op A B w h5 h9 hA hB)
  generalize wrap64 A = x at *
  generalize wrap64 B = y at *
  have FA := Lib.hid fa; have FS := Lib.hid fs; have FM := Lib.hid fm; have UE := Lib.hid ue; have UZ := Lib.hid uz; have I3 := Lib.hid i3; have I4 := Lib.hid i4; have I10 := Lib.hid i10
  clear fa fs fm ue uz i3 i4 i10 hA hB
  rcases (show op = 0 ∨ op = 1 ∨ op = 2 ∨ op = 3 ∨ op = 4 ∨ op = 5 ∨ op = 6 ∨ op = 7 ∨ op = 8 ∨ op = 9 ∨ op = 10 ∨ op = 11 by omega) with rfl | rfl | rfl | rfl | rfl | rfl | rfl | rfl | rfl | rfl | rfl | rfl
  · clear h0 h1 cx cy
    rw [show intBad 0 B = false from rfl]
    simp only [Bool.false_eq_true, if_false]
    go_enter Try.func29, Try.ntmps29
    go_wp2_with fail
    refine (ofInt_any _ _).mono ?_
    rintro e w1 ⟨rfl, hb1⟩
    rw [u64_uM, uM_wrap, FA.out]
    obtain ⟨c0, c1, cf⟩ := blk2 (blk_born hb1)
    unfold valV
    go_wp2_with fail
    exact bodyPost_ret (v := .tuple #[valV 0 (uM (A + B)), .int .i64 0]) (by simp [results, Try.results29, go_sem, valV, c0, c1, cf]) rfl ⟨rfl, b_set (b_set (b_call (b_alloc (Below.refl _ _) _) hb1) (Nat.le_refl _) _) (Nat.le_refl _) _⟩
  · clear h0 h1 cx cy
    rw [show intBad 1 B = false from rfl]
    simp only [Bool.false_eq_true, if_false]
    go_enter Try.func29, Try.ntmps29
    go_wp2_with fail
    refine (ofInt_any _ _).mono ?_
    rintro e w1 ⟨rfl, hb1⟩
    rw [u64_uM, uM_wrap, FS.out]
    obtain ⟨c0, c1, cf⟩ := blk2 (blk_born hb1)
    unfold valV
    go_wp2_with fail
    exact bodyPost_ret (v := .tuple #[valV 0 (uM (A - B)), .int .i64 0]) (by simp [results, Try.results29, go_sem, valV, c0, c1, cf]) rfl ⟨rfl, b_set (b_set (b_call (b_alloc (Below.refl _ _) _) hb1) (Nat.le_refl _) _) (Nat.le_refl _) _⟩
  · clear h0 h1 cx cy
    rw [show intBad 2 B = false from rfl]
    simp only [Bool.false_eq_true, if_false]
    go_enter Try.func29, Try.ntmps29
    go_wp2_with fail
    refine (ofInt_any _ _).mono ?_
    rintro e w1 ⟨rfl, hb1⟩
    rw [u64_uM, uM_wrap, FM.out]
    obtain ⟨c0, c1, cf⟩ := blk2 (blk_born hb1)
    unfold valV
    go_wp2_with fail
    exact bodyPost_ret (v := .tuple #[valV 0 (uM (A * B)), .int .i64 0]) (by simp [results, Try.results29, go_sem, valV, c0, c1, cf]) rfl ⟨rfl, b_set (b_set (b_call (b_alloc (Below.refl _ _) _) hb1) (Nat.le_refl _) _) (Nat.le_refl _) _⟩
  · clear h0 h1 cx cy
    have HD := fun w => Lib.hid (divided_any 3 x y w (by simp) bx by')
    by_cases hz : y = 0
    · have hb : intBad 3 B = true := by rw [bad_of, decide_eq_true_iff]; exact ⟨by simp, UZ.out.1 hz⟩
      rw [hb]
      simp only [if_true]
      simp only [if_pos hz] at HD
      clear hb hz
      go_enter Try.func29, Try.ntmps29
      go_wp2_with fail
      refine (HD _).out.mono ?_
      rintro e w1 ⟨rfl, hb1⟩
      obtain ⟨c0, c1, cf⟩ := blk2 (blk_born hb1)
      unfold valV
      go_wp2_with fail
      exact bodyPost_ret (v := .tuple #[valV 0 0, .int .i64 2]) (by simp [results, Try.results29, go_sem, valV, c0, c1, cf]) rfl ⟨rfl, b_set (b_set (b_call (b_alloc (Below.refl _ _) _) hb1) (Nat.le_refl _) _) (Nat.le_refl _) _⟩
    · have hb : intBad 3 B = false := by rw [bad_of, decide_eq_false_iff_not]; exact fun h => hz (UZ.out.2 h.2)
      rw [hb]
      simp only [Bool.false_eq_true, if_false]
      simp only [if_neg hz] at HD
      rw [I3.out]
      clear hb hz
      go_enter Try.func29, Try.ntmps29
      go_wp2_with fail
      refine (HD _).out.mono ?_
      rintro e w1 ⟨rfl, hb1⟩
      obtain ⟨c0, c1, cf⟩ := blk2 (blk_born hb1)
      simp only [if_true, show ¬ (4 : Int) = 3 by decide, if_false]
      unfold valV
      go_wp2_with fail
      exact bodyPost_ret (v := .tuple #[valV 0 (uM (x.tdiv y)), .int .i64 0]) (by simp [results, Try.results29, go_sem, valV, c0, c1, cf]) rfl ⟨rfl, b_set (b_set (b_call (b_alloc (Below.refl _ _) _) hb1) (Nat.le_refl _) _) (Nat.le_refl _) _⟩
  · clear h0 h1 cx cy
    have HD := fun w => Lib.hid (divided_any 4 x y w (by simp) bx by')
    by_cases hz : y = 0
    · have hb : intBad 4 B = true := by rw [bad_of, decide_eq_true_iff]; exact ⟨by simp, UZ.out.1 hz⟩
      rw [hb]
      simp only [if_true]
      simp only [if_pos hz] at HD
      clear hb hz
      go_enter Try.func29, Try.ntmps29
      go_wp2_with fail
      refine (HD _).out.mono ?_
      rintro e w1 ⟨rfl, hb1⟩
      obtain ⟨c0, c1, cf⟩ := blk2 (blk_born hb1)
      unfold valV
      go_wp2_with fail
      exact bodyPost_ret (v := .tuple #[valV 0 0, .int .i64 2]) (by simp [results, Try.results29, go_sem, valV, c0, c1, cf]) rfl ⟨rfl, b_set (b_set (b_call (b_alloc (Below.refl _ _) _) hb1) (Nat.le_refl _) _) (Nat.le_refl _) _⟩
    · have hb : intBad 4 B = false := by rw [bad_of, decide_eq_false_iff_not]; exact fun h => hz (UZ.out.2 h.2)
      rw [hb]
      simp only [Bool.false_eq_true, if_false]
      simp only [if_neg hz] at HD
      rw [I4.out]
      clear hb hz
      go_enter Try.func29, Try.ntmps29
      go_wp2_with fail
      refine (HD _).out.mono ?_
      rintro e w1 ⟨rfl, hb1⟩
      obtain ⟨c0, c1, cf⟩ := blk2 (blk_born hb1)
      simp only [if_true, show ¬ (4 : Int) = 3 by decide, if_false]
      unfold valV
      go_wp2_with fail
      exact bodyPost_ret (v := .tuple #[valV 0 (uM (x.tmod y)), .int .i64 0]) (by simp [results, Try.results29, go_sem, valV, c0, c1, cf]) rfl ⟨rfl, b_set (b_set (b_call (b_alloc (Below.refl _ _) _) hb1) (Nat.le_refl _) _) (Nat.le_refl _) _⟩
  · clear h0 h1
    rw [show intBad 5 B = false from rfl]
    simp only [Bool.false_eq_true, if_false]
    go_enter Try.func29, Try.ntmps29
    go_wp2_with fail
    refine (BT 5 _ (by omega) (by omega)).out.mono ?_
    rintro e w1 ⟨rfl, rfl⟩
    go_wp2_with fail
    exact bodyPost_ret (v := .tuple #[valV 0 (intO 5 A B), .int .i64 0]) (by simp [results, Try.results29, go_sem, valV]) rfl ⟨rfl, by (repeat' (first | exact Below.refl _ _ | assumption | refine b_alloc ?_ _ | refine b_over ?_ _ | refine b_drew ?_ | refine b_call ?_ (by assumption)))⟩
  · clear h0 h1
    rw [show intBad 6 B = false from rfl]
    simp only [Bool.false_eq_true, if_false]
    go_enter Try.func29, Try.ntmps29
    go_wp2_with fail
    refine (BT 6 _ (by omega) (by omega)).out.mono ?_
    rintro e w1 ⟨rfl, rfl⟩
    go_wp2_with fail
    exact bodyPost_ret (v := .tuple #[valV 0 (intO 6 A B), .int .i64 0]) (by simp [results, Try.results29, go_sem, valV]) rfl ⟨rfl, by (repeat' (first | exact Below.refl _ _ | assumption | refine b_alloc ?_ _ | refine b_over ?_ _ | refine b_drew ?_ | refine b_call ?_ (by assumption)))⟩
  · clear h0 h1
    rw [show intBad 7 B = false from rfl]
    simp only [Bool.false_eq_true, if_false]
    go_enter Try.func29, Try.ntmps29
    go_wp2_with fail
    refine (BT 7 _ (by omega) (by omega)).out.mono ?_
    rintro e w1 ⟨rfl, rfl⟩
    go_wp2_with fail
    exact bodyPost_ret (v := .tuple #[valV 0 (intO 7 A B), .int .i64 0]) (by simp [results, Try.results29, go_sem, valV]) rfl ⟨rfl, by (repeat' (first | exact Below.refl _ _ | assumption | refine b_alloc ?_ _ | refine b_over ?_ _ | refine b_drew ?_ | refine b_call ?_ (by assumption)))⟩
  · clear h0 h1
    rw [show intBad 8 B = false from rfl]
    simp only [Bool.false_eq_true, if_false]
    go_enter Try.func29, Try.ntmps29
    go_wp2_with fail
    refine (BT 8 _ (by omega) (by omega)).out.mono ?_
    rintro e w1 ⟨rfl, rfl⟩
    go_wp2_with fail
    exact bodyPost_ret (v := .tuple #[valV 0 (intO 8 A B), .int .i64 0]) (by simp [results, Try.results29, go_sem, valV]) rfl ⟨rfl, by (repeat' (first | exact Below.refl _ _ | assumption | refine b_alloc ?_ _ | refine b_over ?_ _ | refine b_drew ?_ | refine b_call ?_ (by assumption)))⟩
  · clear h0 h1
    rw [show intBad 9 B = false from rfl]
    simp only [Bool.false_eq_true, if_false]
    go_enter Try.func29, Try.ntmps29
    go_wp2_with fail
    refine (BT 9 _ (by omega) (by omega)).out.mono ?_
    rintro e w1 ⟨rfl, rfl⟩
    go_wp2_with fail
    exact bodyPost_ret (v := .tuple #[valV 0 (intO 9 A B), .int .i64 0]) (by simp [results, Try.results29, go_sem, valV]) rfl ⟨rfl, by (repeat' (first | exact Below.refl _ _ | assumption | refine b_alloc ?_ _ | refine b_over ?_ _ | refine b_drew ?_ | refine b_call ?_ (by assumption)))⟩
  · clear h0 h1 cx cy
    rw [show intBad 10 B = false from rfl]
    simp only [Bool.false_eq_true, if_false]
    rw [I10.out, ← truthI_eq]
    go_enter Try.func29, Try.ntmps29
    go_wp2_with fail
    refine (truth_any _ _).mono ?_
    rintro e w1 ⟨rfl, hb1⟩
    obtain ⟨c0, c1, cf⟩ := blk2 (blk_born hb1)
    unfold valV
    go_wp2_with fail
    exact bodyPost_ret (v := .tuple #[valV 0 (truthI (decide (x < y))), .int .i64 0]) (by simp [results, Try.results29, go_sem, valV, c0, c1, cf]) rfl ⟨rfl, b_set (b_set (b_call (b_alloc (Below.refl _ _) _) hb1) (Nat.le_refl _) _) (Nat.le_refl _) _⟩
  · clear h0 h1 cx cy
    rw [show intBad 11 B = false from rfl]
    simp only [Bool.false_eq_true, if_false]
    rw [show intO 11 A B = tI (A == B) from rfl, ← truthI_eq, ← UE.out]
    go_enter Try.func29, Try.ntmps29
    go_wp2_with fail
    refine (truth_any _ _).mono ?_
    rintro e w1 ⟨rfl, hb1⟩
    obtain ⟨c0, c1, cf⟩ := blk2 (blk_born hb1)
    unfold valV
    go_wp2_with fail
    exact bodyPost_ret (v := .tuple #[valV 0 (truthI (x == y)), .int .i64 0]) (by simp [results, Try.results29, go_sem, valV, c0, c1, cf]) rfl ⟨rfl, b_set (b_set (b_call (b_alloc (Below.refl _ _) _) hb1) (Nat.le_refl _) _) (Nat.le_refl _) _⟩
end Go.Proofs.Ytgiegfgoglhnoaa
