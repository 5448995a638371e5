/- InstrRead, walked: whatever bytes, the answer is true. Conditions: the slice reads as bytes. -/
import Derived.Test.YtdhkemnebppkhaaInstrRRead
namespace Go.Proofs.Ytdhkemnebppkhaa
open Go.RowKit
set_option linter.unusedVariables false
set_option linter.unusedSimpArgs false
attribute [local go_sem] over_cell over_frozen
theorem iread_no (u : Value) (xs : List Int) (w : World) (h : ReadB w u xs) (hb : IsBytes xs) (hl : xs.length ≤ 274877906944) (hok : okR xs = false) : Calls Try.prog 20 #[u] w fun e w' => e = .returned (.tuple #[instV 0 0 0 0, .int .i64 0, .int .i64 4]) ∧ Below w.heap.size w w' := by
  rcases Nat.eq_zero_or_pos xs.length with h0 | h0
  · obtain rfl := List.eq_nil_of_length_eq_zero h0
    exact iread_empty u w h
  · exact iread_none u xs w h hb hl h0 hok
theorem rread_no (u : Value) (xs : List Int) (w : World) (h : ReadB w u xs) (hb : IsBytes xs) (hok : okR xs = false) : Calls Try.prog 23 #[u] w fun e w' => e = .returned (.tuple #[instV 0 0 0 0, .int .i64 0]) ∧ Below w.heap.size w w' := by
  rcases Nat.eq_zero_or_pos xs.length with h0 | h0
  · obtain rfl := List.eq_nil_of_length_eq_zero h0
    exact rread_empty u w h
  · cases hs : shOk (opR xs) with
    | false => exact rread_bad u xs w h hb h0 hs
    | true =>
      refine rread_short u xs w h hb h0 hs ?_
      unfold okR at hok
      rw [hs, decide_eq_true h0] at hok
      have e2 : ¬ (szR (opR xs) ≤ xs.length) := of_decide_eq_false (by simpa using hok)
      omega
theorem isBytes_take' {xs : List Int} (h : IsBytes xs) (k : Nat) : IsBytes (xs.take k) := isBytes_take h k
theorem szR_pos (op : Int) : 0 < szR op := by unfold szR; omega
set_option maxHeartbeats 2000000 in
theorem instrRead_any (u : Value) (xs : List Int) (w : World) (h : ReadB w u xs) (hb : IsBytes xs) : Calls Try.prog 5 #[u] w fun e w' => e = .returned (.bool true) ∧ Below w.heap.size w w' := by
  rcases (show 20 < xs.length ∨ xs.length ≤ 20 by omega) with hlen | hlen
  · obtain ⟨b, o, cap, rfl, h1, h2, h3, h4⟩ := readB_pos h (by omega)
    have hr := readB_take h (n := 20) (by omega)
    have hby := isBytes_take hb 20
    have hyl : (xs.take 20).length ≤ 20 := by simp; omega
    obtain ⟨ys, hys⟩ : ∃ ys, ys = xs.take 20 := ⟨_, rfl⟩
    rw [← hys] at hr hby hyl
    have c20 : 20 ≤ cap := by omega
    have t20 : decide (20 < (xs.length : Int)) = true := by rw [decide_eq_true_iff]; omega
    have HR := Lib.hid hr; have HB := Lib.hid hby; have HY := Lib.hid hyl
    clear hys h4 hb h hr hby hyl hlen
    go_enter Try.func5, Try.ntmps5
    go_wp2_with fail
    cases hok : okR ys with
    | false =>
      refine (iread_no _ ys _ HR.out HB.out (by have := HY.out; omega) hok).mono ?_
      rintro e w1 ⟨rfl, hb1⟩
      unfold instV
      go_wp2_with fail
      have hB1 := b_alloc hb1 (.cells #[.int .i64 0, .int .u64 0, .int .i64 0, .int .i64 0] 32)
      refine (rread_no _ ys _ (readB_below HR.out hB1) HB.out hok).mono ?_
      rintro e w2 ⟨rfl, hb2⟩
      unfold instV
      obtain ⟨g0, g1, g2, g3, gf⟩ := blk4 (blk_born hb2)
      have z2 := (blk_born hb2).1
      have hok' := Lib.hid hok; clear hok
      go_wp2_with fail
      refine (awake24 _).mono ?_
      rintro e w3 ⟨rfl, hb3⟩
      go_wp2_with fail
      go_ret
      exact ⟨rfl, b_call (b_alloc (b_call hB1 hb2) _) hb3⟩
    | true =>
      refine (iread_ok _ ys _ HR.out HB.out (by have := HY.out; omega) hok).mono ?_
      rintro e w1 ⟨rfl, hb1⟩
      unfold instV
      go_wp2_with fail
      have hB1 := b_alloc hb1 (.cells #[.int .i64 (opR ys), .int .u64 (xR ys), .int .i64 (aR ys), .int .i64 (bR ys)] 32)
      refine (rread_ok _ ys _ (readB_below HR.out hB1) HB.out (by have := HY.out; omega) hok).mono ?_
      rintro e w2 ⟨rfl, hb2⟩
      unfold instV
      obtain ⟨g0, g1, g2, g3, gf⟩ := blk4 (blk_born hb2)
      have z2 := (blk_born hb2).1
      have sp := szR_pos (opR ys)
      have t0 : ((szR (opR ys) : Int) == 0) = false := beq_false_of_ne (by omega)
      have hok' := Lib.hid hok; clear hok
      have z3 := hb1.size
      go_upto_region 7 with fail
      refine wp_region_over_lit (by kernel_rfl) (by kernel_rfl) ?_
      repeat (quiet_step ((first | (go_at_call 22; exact over_call (plain_any _ _ _ _ _)) | (go_at_call 18; exact over_call (awake24 _)))))
      refine wpQuiet_nil ?_
      intro w9 hb9; replace hb9 := over_elim hb9; obtain ⟨hc9, hf9⟩ := bcell hb9; have hz9 := hb9.size; try simp only [World.size_alloc, World.size_setCell, World.size_drew] at hz9
      go_wp2
      go_ret
      exact ⟨rfl, b_call (b_alloc (b_call hB1 hb2) _) hb9⟩
  · obtain ⟨a, cap, rfl⟩ := readB_len h
    have t20 : decide (20 < (xs.length : Int)) = false := by rw [decide_eq_false_iff_not]; omega
    have HR := Lib.hid h; have HB := Lib.hid hb; have HY := Lib.hid hlen
    clear h hb hlen
    go_enter Try.func5, Try.ntmps5
    go_wp2_with fail
    cases hok : okR xs with
    | false =>
      refine (iread_no _ xs _ HR.out HB.out (by have := HY.out; omega) hok).mono ?_
      rintro e w1 ⟨rfl, hb1⟩
      unfold instV
      go_wp2_with fail
      have hB1 := b_alloc hb1 (.cells #[.int .i64 0, .int .u64 0, .int .i64 0, .int .i64 0] 32)
      refine (rread_no _ xs _ (readB_below HR.out hB1) HB.out hok).mono ?_
      rintro e w2 ⟨rfl, hb2⟩
      unfold instV
      obtain ⟨g0, g1, g2, g3, gf⟩ := blk4 (blk_born hb2)
      have z2 := (blk_born hb2).1
      have hok' := Lib.hid hok; clear hok
      go_wp2_with fail
      refine (awake24 _).mono ?_
      rintro e w3 ⟨rfl, hb3⟩
      go_wp2_with fail
      go_ret
      exact ⟨rfl, b_call (b_alloc (b_call hB1 hb2) _) hb3⟩
    | true =>
      refine (iread_ok _ xs _ HR.out HB.out (by have := HY.out; omega) hok).mono ?_
      rintro e w1 ⟨rfl, hb1⟩
      unfold instV
      go_wp2_with fail
      have hB1 := b_alloc hb1 (.cells #[.int .i64 (opR xs), .int .u64 (xR xs), .int .i64 (aR xs), .int .i64 (bR xs)] 32)
      refine (rread_ok _ xs _ (readB_below HR.out hB1) HB.out (by have := HY.out; omega) hok).mono ?_
      rintro e w2 ⟨rfl, hb2⟩
      unfold instV
      obtain ⟨g0, g1, g2, g3, gf⟩ := blk4 (blk_born hb2)
      have z2 := (blk_born hb2).1
      have sp := szR_pos (opR xs)
      have t0 : ((szR (opR xs) : Int) == 0) = false := beq_false_of_ne (by omega)
      have hok' := Lib.hid hok; clear hok
      have z3 := hb1.size
      go_upto_region 7 with fail
      refine wp_region_over_lit (by kernel_rfl) (by kernel_rfl) ?_
      repeat (quiet_step ((first | (go_at_call 22; exact over_call (plain_any _ _ _ _ _)) | (go_at_call 18; exact over_call (awake24 _)))))
      refine wpQuiet_nil ?_
      intro w9 hb9; replace hb9 := over_elim hb9; obtain ⟨hc9, hf9⟩ := bcell hb9; have hz9 := hb9.size; try simp only [World.size_alloc, World.size_setCell, World.size_drew] at hz9
      go_wp2
      go_ret
      exact ⟨rfl, b_call (b_alloc (b_call hB1 hb2) _) hb9⟩
end Go.Proofs.Ytdhkemnebppkhaa
