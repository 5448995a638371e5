/- Layer 24: instructions as bytes, and back: ours and the document's. Conditions: those stated. -/
import Derived.Test.YtedmjlhgpdeafaaDoorQBytes
import Derived.Laws.OwnMore
namespace Go.Proofs.YtedmjlhgpdeafaaDoor
open Go.RowKit
set_option linter.unusedVariables false
set_option linter.unusedSimpArgs false
/-- The bytes of an instruction that may be. -/
def bytesI (op x a b : Int) : List Int := [op % 256] ++ (if shX op = true then putL 8 x else []) ++ (if 0 < shN op then putL 2 a else []) ++ (if 1 < shN op then putL 2 b else [])
theorem bytesI_length (op x a b : Int) : (bytesI op x a b).length = 1 + (if shX op = true then 8 else 0) + (if 0 < shN op then 2 else 0) + (if 1 < shN op then 2 else 0) := by
  unfold bytesI
  simp only [List.length_append, List.length_cons, List.length_nil]
  split <;> split <;> split <;> simp [putL_length]
theorem ownB_lit {w : World} {B : Nat} (x : Int) (hB : B ≤ w.heap.size) : OwnB (w.alloc (.cells #[.int .u8 x] 5)) B (.slice (some ⟨w.heap.size, 0, none⟩) 1 1) [x] :=
  World.ownsRow_lit w #[.int .u8 x] 1 hB (by unfold maxLen; decide) rfl
/-- The words behind the op's byte: what Bytes makes of a and b. -/
theorem may_arg {op x a b : Int} (h : mayB op x a b = true) : (0 ≤ a ∧ a ≤ 65535) ∧ (0 ≤ b ∧ b ≤ 65535) := by
  unfold mayB at h
  simp only [Bool.and_eq_true] at h
  have f : ∀ n t, smallB n t = true → 0 ≤ n ∧ n ≤ 65535 := fun n t h => by
    rcases (show (n < 0 ∨ 65535 < n) ∨ (0 ≤ n ∧ n ≤ 65535) by omega) with q | q
    · rw [small_out q] at h; cases h
    · exact q
  exact ⟨f _ _ h.1.2, f _ _ h.2⟩
theorem flag_kind (op : Int) : (hasB op 120 = shX op) ∧ (hasB op 97 = decide (0 < shN op)) ∧ (hasB op 98 = decide (1 < shN op)) := by
  obtain ⟨e1, e2, e3⟩ := has_xs op
  rw [e1, e2, e3]
  unfold shX shN
  have h := kind_le op
  generalize kindOf op = n at h
  match n, h with
  | 0, _ => exact ⟨rfl, rfl, rfl⟩
  | 1, _ => exact ⟨rfl, rfl, rfl⟩
  | 2, _ => exact ⟨rfl, rfl, rfl⟩
  | 3, _ => exact ⟨rfl, rfl, rfl⟩
  | 4, _ => exact ⟨rfl, rfl, rfl⟩
/-- The bytes, by the document's own flags. -/
def bytesF (q0 q1 q2 : Bool) (op x a b : Int) : List Int := [op % 256] ++ (if q0 = true then putL 8 x else []) ++ (if q1 = true then putL 2 a else []) ++ (if q2 = true then putL 2 b else [])
theorem bytesF_eq (op x a b : Int) : bytesI op x a b = bytesF (hasB op 120) (hasB op 97) (hasB op 98) op x a b := by
  obtain ⟨e1, e2, e3⟩ := flag_kind op
  unfold bytesI bytesF
  rw [e1, e2, e3]
  simp only [decide_eq_true_iff]
set_option maxHeartbeats 1000000 in
theorem rbytes_any (op x a b : Int) (w : World) (hx : 0 ≤ x) (hx2 : x < 18446744073709551616) (ha : 0 ≤ a ∧ a ≤ 65535) (hb : 0 ≤ b ∧ b ≤ 65535) : Calls Tryd.prog 71 #[.agg #[.int .i64 op, .int .u64 x, .int .i64 a, .int .i64 b]] w (RetOwnB w (bytesI op x a b)) := by
  have hB : Below w.heap.size w (w.alloc (.cells #[.int .i64 op, .int .u64 x, .int .i64 a, .int .i64 b] 42)) := b_alloc (Below.refl _ _) _
  have hcvA : IntKind.u64.wrap a = a := by rw [IntWalk.u64_in]; omega
  have hcvB : IntKind.u64.wrap b = b := by rw [IntWalk.u64_in]; omega
  rw [bytesF_eq]
  have HX := Lib.hid hx; have HX2 := Lib.hid hx2; have HA := Lib.hid ha; have HB := Lib.hid hb
  clear hx hx2 ha hb
  go_enter Tryd.func71, Tryd.ntmps71
  go_upto_region 2 with fail
  refine wp_world _ ?_
  intro w3 hw3
  have hbw3 : Below (w.alloc (.cells #[.int .i64 op, .int .u64 x, .int .i64 a, .int .i64 b] 42)).heap.size (w.alloc (.cells #[.int .i64 op, .int .u64 x, .int .i64 a, .int .i64 b] 42)) w3 := by rw [hw3]; exact b_alloc (Below.refl _ _) _
  have own3 : OwnB w3 (w.heap.size + 1) (.slice (some ⟨w.heap.size + 1, 0, none⟩) 1 1) [op % 256] := by
    have e := ownB_lit (w := w.alloc (.cells #[.int .i64 op, .int .u64 x, .int .i64 a, .int .i64 b] 42)) (B := w.heap.size + 1) (op % 256) (by simp)
    rw [World.size_alloc] at e
    rw [hw3]; exact e
  clear hw3
  obtain ⟨c0, c1, c2, c3⟩ := cells4 hbw3
  generalize Value.slice (some ⟨w.heap.size + 1, 0, none⟩) 1 1 = v3 at own3 ⊢
  go_wp2_with fail
  refine (has_any _ _ _).mono ?_
  rintro e w0_1 ⟨rfl, hh0⟩
  have hbw0a := b_call hbw3 hh0
  have own0a := ownB_below own3 hh0
  clear c0 c1 c2 c3
  obtain ⟨c0, c1, c2, c3⟩ := cells4 hbw0a
  generalize hq0 : hasB op 120 = q0
  have HQ0 := Lib.hid hq0; clear hq0
  cases q0 with
  | false =>
    go_wp2_with fail
    refine (has_any _ _ _).mono ?_
    rintro e w1_1 ⟨rfl, hh1⟩
    have hbw1a := b_call hbw0a hh1
    have own1a := ownB_below own0a hh1
    clear c0 c1 c2 c3
    obtain ⟨c0, c1, c2, c3⟩ := cells4 hbw1a
    generalize hq1 : hasB op 97 = q1
    have HQ1 := Lib.hid hq1; clear hq1
    cases q1 with
    | false =>
      go_wp2_with fail
      refine (has_any _ _ _).mono ?_
      rintro e w2_1 ⟨rfl, hh2⟩
      have hbw2a := b_call hbw1a hh2
      have own2a := ownB_below own1a hh2
      clear c0 c1 c2 c3
      obtain ⟨c0, c1, c2, c3⟩ := cells4 hbw2a
      generalize hq2 : hasB op 98 = q2
      have HQ2 := Lib.hid hq2; clear hq2
      cases q2 with
      | false =>
        go_wp2_with fail
        go_ret
        exact ⟨_, rfl, ownB_mono (by unfold bytesF; rw [HQ0.out, HQ1.out, HQ2.out]; simpa using own2a) (by omega), b_call hB hbw2a⟩
      | true =>
        go_wp2_with fail
        refine (rnput_any 2 b _ (by omega) HB.out.1 (by have := HB.out; omega)).mono ?_
        rintro e w2_2 ⟨p2, rfl, ownp2, hp2⟩
        have own2b := ownB_below own2a hp2
        go_wp2_with (at_builtin; refine appendB rfl _ _ rfl (w.heap.size + 1) _ _ rfl own2b _ (putL 2 b) rfl (ownB_read ownp2) ?c1 ?c2 ?_; (case c1 => simp [putL_length]); (case c2 => (have := hbw2a.size; have := hp2.size; simp only [World.size_alloc] at *; omega)); intro v23 w2_3 own2c hg2; have hbw2c := b_ownB (b_call hbw2a hp2) (by rw [World.size_alloc]; exact own2b) hg2; clear c0 c1 c2 c3; obtain ⟨c0, c1, c2, c3⟩ := cells4 hbw2c)
        go_ret
        exact ⟨_, rfl, ownB_mono (by unfold bytesF; rw [HQ0.out, HQ1.out, HQ2.out]; simpa using own2c) (by omega), b_call hB hbw2c⟩
    | true =>
      go_wp2_with fail
      refine (rnput_any 2 a _ (by omega) HA.out.1 (by have := HA.out; omega)).mono ?_
      rintro e w1_2 ⟨p1, rfl, ownp1, hp1⟩
      have own1b := ownB_below own1a hp1
      go_wp2_with (at_builtin; refine appendB rfl _ _ rfl (w.heap.size + 1) _ _ rfl own1b _ (putL 2 a) rfl (ownB_read ownp1) ?c1 ?c2 ?_; (case c1 => simp [putL_length]); (case c2 => (have := hbw1a.size; have := hp1.size; simp only [World.size_alloc] at *; omega)); intro v13 w1_3 own1c hg1; have hbw1c := b_ownB (b_call hbw1a hp1) (by rw [World.size_alloc]; exact own1b) hg1; clear c0 c1 c2 c3; obtain ⟨c0, c1, c2, c3⟩ := cells4 hbw1c)
      refine (has_any _ _ _).mono ?_
      rintro e w2_1 ⟨rfl, hh2⟩
      have hbw2a := b_call hbw1c hh2
      have own2a := ownB_below own1c hh2
      clear c0 c1 c2 c3
      obtain ⟨c0, c1, c2, c3⟩ := cells4 hbw2a
      generalize hq2 : hasB op 98 = q2
      have HQ2 := Lib.hid hq2; clear hq2
      cases q2 with
      | false =>
        go_wp2_with fail
        go_ret
        exact ⟨_, rfl, ownB_mono (by unfold bytesF; rw [HQ0.out, HQ1.out, HQ2.out]; simpa using own2a) (by omega), b_call hB hbw2a⟩
      | true =>
        go_wp2_with fail
        refine (rnput_any 2 b _ (by omega) HB.out.1 (by have := HB.out; omega)).mono ?_
        rintro e w2_2 ⟨p2, rfl, ownp2, hp2⟩
        have own2b := ownB_below own2a hp2
        go_wp2_with (at_builtin; refine appendB rfl _ _ rfl (w.heap.size + 1) _ _ rfl own2b _ (putL 2 b) rfl (ownB_read ownp2) ?c1 ?c2 ?_; (case c1 => simp [putL_length]); (case c2 => (have := hbw2a.size; have := hp2.size; simp only [World.size_alloc] at *; omega)); intro v23 w2_3 own2c hg2; have hbw2c := b_ownB (b_call hbw2a hp2) (by rw [World.size_alloc]; exact own2b) hg2; clear c0 c1 c2 c3; obtain ⟨c0, c1, c2, c3⟩ := cells4 hbw2c)
        go_ret
        exact ⟨_, rfl, ownB_mono (by unfold bytesF; rw [HQ0.out, HQ1.out, HQ2.out]; simpa using own2c) (by omega), b_call hB hbw2c⟩
  | true =>
    go_wp2_with fail
    refine (rnput_any 8 x _ (by omega) HX.out HX2.out).mono ?_
    rintro e w0_2 ⟨p0, rfl, ownp0, hp0⟩
    have own0b := ownB_below own0a hp0
    go_wp2_with (at_builtin; refine appendB rfl _ _ rfl (w.heap.size + 1) _ _ rfl own0b _ (putL 8 x) rfl (ownB_read ownp0) ?c1 ?c2 ?_; (case c1 => simp [putL_length]); (case c2 => (have := hbw0a.size; have := hp0.size; simp only [World.size_alloc] at *; omega)); intro v03 w0_3 own0c hg0; have hbw0c := b_ownB (b_call hbw0a hp0) (by rw [World.size_alloc]; exact own0b) hg0; clear c0 c1 c2 c3; obtain ⟨c0, c1, c2, c3⟩ := cells4 hbw0c)
    refine (has_any _ _ _).mono ?_
    rintro e w1_1 ⟨rfl, hh1⟩
    have hbw1a := b_call hbw0c hh1
    have own1a := ownB_below own0c hh1
    clear c0 c1 c2 c3
    obtain ⟨c0, c1, c2, c3⟩ := cells4 hbw1a
    generalize hq1 : hasB op 97 = q1
    have HQ1 := Lib.hid hq1; clear hq1
    cases q1 with
    | false =>
      go_wp2_with fail
      refine (has_any _ _ _).mono ?_
      rintro e w2_1 ⟨rfl, hh2⟩
      have hbw2a := b_call hbw1a hh2
      have own2a := ownB_below own1a hh2
      clear c0 c1 c2 c3
      obtain ⟨c0, c1, c2, c3⟩ := cells4 hbw2a
      generalize hq2 : hasB op 98 = q2
      have HQ2 := Lib.hid hq2; clear hq2
      cases q2 with
      | false =>
        go_wp2_with fail
        go_ret
        exact ⟨_, rfl, ownB_mono (by unfold bytesF; rw [HQ0.out, HQ1.out, HQ2.out]; simpa using own2a) (by omega), b_call hB hbw2a⟩
      | true =>
        go_wp2_with fail
        refine (rnput_any 2 b _ (by omega) HB.out.1 (by have := HB.out; omega)).mono ?_
        rintro e w2_2 ⟨p2, rfl, ownp2, hp2⟩
        have own2b := ownB_below own2a hp2
        go_wp2_with (at_builtin; refine appendB rfl _ _ rfl (w.heap.size + 1) _ _ rfl own2b _ (putL 2 b) rfl (ownB_read ownp2) ?c1 ?c2 ?_; (case c1 => simp [putL_length]); (case c2 => (have := hbw2a.size; have := hp2.size; simp only [World.size_alloc] at *; omega)); intro v23 w2_3 own2c hg2; have hbw2c := b_ownB (b_call hbw2a hp2) (by rw [World.size_alloc]; exact own2b) hg2; clear c0 c1 c2 c3; obtain ⟨c0, c1, c2, c3⟩ := cells4 hbw2c)
        go_ret
        exact ⟨_, rfl, ownB_mono (by unfold bytesF; rw [HQ0.out, HQ1.out, HQ2.out]; simpa using own2c) (by omega), b_call hB hbw2c⟩
    | true =>
      go_wp2_with fail
      refine (rnput_any 2 a _ (by omega) HA.out.1 (by have := HA.out; omega)).mono ?_
      rintro e w1_2 ⟨p1, rfl, ownp1, hp1⟩
      have own1b := ownB_below own1a hp1
      go_wp2_with (at_builtin; refine appendB rfl _ _ rfl (w.heap.size + 1) _ _ rfl own1b _ (putL 2 a) rfl (ownB_read ownp1) ?c1 ?c2 ?_; (case c1 => simp [putL_length]); (case c2 => (have := hbw1a.size; have := hp1.size; simp only [World.size_alloc] at *; omega)); intro v13 w1_3 own1c hg1; have hbw1c := b_ownB (b_call hbw1a hp1) (by rw [World.size_alloc]; exact own1b) hg1; clear c0 c1 c2 c3; obtain ⟨c0, c1, c2, c3⟩ := cells4 hbw1c)
      refine (has_any _ _ _).mono ?_
      rintro e w2_1 ⟨rfl, hh2⟩
      have hbw2a := b_call hbw1c hh2
      have own2a := ownB_below own1c hh2
      clear c0 c1 c2 c3
      obtain ⟨c0, c1, c2, c3⟩ := cells4 hbw2a
      generalize hq2 : hasB op 98 = q2
      have HQ2 := Lib.hid hq2; clear hq2
      cases q2 with
      | false =>
        go_wp2_with fail
        go_ret
        exact ⟨_, rfl, ownB_mono (by unfold bytesF; rw [HQ0.out, HQ1.out, HQ2.out]; simpa using own2a) (by omega), b_call hB hbw2a⟩
      | true =>
        go_wp2_with fail
        refine (rnput_any 2 b _ (by omega) HB.out.1 (by have := HB.out; omega)).mono ?_
        rintro e w2_2 ⟨p2, rfl, ownp2, hp2⟩
        have own2b := ownB_below own2a hp2
        go_wp2_with (at_builtin; refine appendB rfl _ _ rfl (w.heap.size + 1) _ _ rfl own2b _ (putL 2 b) rfl (ownB_read ownp2) ?c1 ?c2 ?_; (case c1 => simp [putL_length]); (case c2 => (have := hbw2a.size; have := hp2.size; simp only [World.size_alloc] at *; omega)); intro v23 w2_3 own2c hg2; have hbw2c := b_ownB (b_call hbw2a hp2) (by rw [World.size_alloc]; exact own2b) hg2; clear c0 c1 c2 c3; obtain ⟨c0, c1, c2, c3⟩ := cells4 hbw2c)
        go_ret
        exact ⟨_, rfl, ownB_mono (by unfold bytesF; rw [HQ0.out, HQ1.out, HQ2.out]; simpa using own2c) (by omega), b_call hB hbw2c⟩
end Go.Proofs.YtedmjlhgpdeafaaDoor
