/- InstrShapes, walked: whatever the number and the instruction, the answer is true. No conditions. -/
import Derived.Test.YtdhkemnebppkhaaInstrWake
namespace Go.Proofs.Ytdhkemnebppkhaa
open Go.RowKit
set_option linter.unusedVariables false
set_option linter.unusedSimpArgs false
attribute [local go_sem] over_cell over_frozen
theorem tell_ok (op : Int) : ((tellS (kindOf op)).toList == [45]) = !shOk op := by
  unfold shOk
  have h := kind_le op
  by_cases h4 : kindOf op = 4
  · rw [h4, show tellS 4 = ⟨#[45]⟩ from rfl, ByteArray.toList_eq]; rfl
  · rw [beq_false_of_ne (tell_ne h h4), show (kindOf op != 4) = true by rw [bne_iff_ne]; exact h4]; rfl
theorem ok_range {op : Int} (h : shOk op = true) : 0 ≤ op ∧ op < 37 := by
  rcases (show (op < 0 ∨ 37 ≤ op) ∨ (0 ≤ op ∧ op < 37) by omega) with q | q
  · unfold shOk kindOf at h; rw [if_pos q] at h; cases h
  · exact q
theorem not_ok {op : Int} (h : shOk op = false) : kindOf op = 4 := by
  unfold shOk at h
  rcases Nat.lt_or_ge (kindOf op) 4 with q | q
  · rw [show (kindOf op != 4) = true by rw [bne_iff_ne]; omega] at h; cases h
  · have := kind_le op; omega
theorem not_range {op : Int} (h : shOk op = false) : nameB op = ⟨#[]⟩ := by
  unfold nameB
  rcases kind_cases op with q | ⟨k, hk, rfl⟩
  · rw [if_neg (by omega)]
  · exfalso
    have e : ∀ k : Fin 37, shOk (k.val : Int) = true := by decide
    rw [e ⟨k, hk⟩] at h; cases h
set_option maxRecDepth 100000 in
set_option maxHeartbeats 4000000 in
theorem instrShapes_any (op iop ix ia ib : Int) (w : World) (ho : -9223372036854775808 ≤ op ∧ op ≤ 9223372036854775807) : Calls Try.prog 3 #[.int .i64 op, .agg #[.int .i64 iop, .int .u64 ix, .int .i64 ia, .int .i64 ib]] w fun e w' => e = .returned (.bool true) ∧ Below w.heap.size w w' := by
  have hB : Below w.heap.size w (w.alloc (.cells #[.int .i64 iop, .int .u64 ix, .int .i64 ia, .int .i64 ib] 24)) := b_alloc (Below.refl _ _) _
  obtain ⟨f0, f1, f2⟩ := flag_kind op
  have f3 := tell_ok op
  go_enter Try.func3, Try.ntmps3
  go_wp2_with fail
  refine (shape_any _ _).mono ?_
  rintro e w1 ⟨rfl, rfl⟩
  go_wp2_with fail
  refine (told_any _ _).mono ?_
  rintro e w1 ⟨rfl, hb1⟩
  cases hok : shOk op with
  | false =>
    have K := not_ok hok
    obtain ⟨e1, e2, _⟩ := kind_n K
    simp only [show ¬ (4 = 3) by decide, show ¬ (4 = 2) by decide, if_false] at e1
    have e2' : shX op = false := e2
    have nm := not_range hok
    rw [hok] at f3
    rw [e1] at f1 f2
    rw [e2'] at f0
    have g0 : hasB op 120 = false := f0
    have g1 : hasB op 97 = false := f1
    have g2 : hasB op 98 = false := f2
    have g3 : ((tellS (kindOf op)).toList == [45]) = true := f3
    clear K e2 f0 f1 f2 f3
    go_wp2_with fail
    refine (has_any _ _ _).mono ?_
    rintro e w2 ⟨rfl, hb2⟩
    rw [g1]
    go_wp2_with fail
    refine (has_any _ _ _).mono ?_
    rintro e w3 ⟨rfl, hb3⟩
    rw [g2]
    have hb23 := b_call (b_call hb1 hb2) hb3
    obtain ⟨c0, c1, c2, c3⟩ := cells4 hb23
    have hB3 := b_call hB hb23
    have lt3 : w.heap.size < w3.heap.size := by have := hb23.size; simp only [World.size_alloc] at this; omega
    clear hb1 hb2 hb3
    go_upto_region 11 with fail
    refine wp_region_over_lit (by kernel_rfl) (by kernel_rfl) ?_
    repeat (quiet_step ((first | (go_at_call 13; exact over_call (has_any _ _ _)) | (go_at_call 14; exact over_call (name_any _ _)) | (go_at_call 16; exact over_call (ours_any _ _ _ _ _)) | (go_at_call 15; exact over_call (may_any _ _ _ _ _)) | (go_at_call 17; exact over_call (rmay_any _ _ _ _ _)) | (go_at_call 18; exact over_call (awake24 _)))))
    refine wpQuiet_nil ?_
    intro w9 hb9; replace hb9 := over_elim hb9; obtain ⟨hc9, hf9⟩ := bcell hb9; have hz9 := hb9.size; try simp only [World.size_alloc, World.size_setCell, World.size_drew] at hz9
    go_wp2
    go_ret
    exact ⟨rfl, b_call hB3 hb9⟩
  | true =>
    obtain ⟨r1, r2⟩ := ok_range hok
    obtain ⟨k, rfl⟩ : ∃ k : Nat, op = (k : Int) := ⟨op.toNat, by omega⟩
    have hk : k < 37 := by omega
    have nmk : nameB (k : Int) = nameS k := by unfold nameB; rw [if_pos ⟨r1, r2⟩, Int.toNat_natCast]
    rw [hok] at f3
    have g3 : ((tellS (kindOf (k : Int))).toList == [45]) = false := f3
    clear f3
    have NMK := Lib.hid nmk
    rcases (show shN (k : Int) = 0 ∨ shN (k : Int) = 1 ∨ shN (k : Int) = 2 by unfold shN; split; exact Or.inr (Or.inr rfl); split; exact Or.inr (Or.inl rfl); exact Or.inl rfl) with hn | hn | hn
    · clear nmk
      have e1 : shN (k : Int) = 0 := hn
      clear hn
      rw [e1] at f1 f2
      have g1 : hasB (k : Int) 97 = false := f1
      have g2 : hasB (k : Int) 98 = false := f2
      clear f1 f2
      go_wp2_with fail
      refine names_any _ |>.mono ?_
      rintro e w2 ⟨rfl, hw2⟩
      have hb2 : Below w1.heap.size w1 w2 := by rw [hw2]; exact b_alloc (Below.refl _ _) _
      have hcN : w2.cell? ⟨w1.heap.size, k, none⟩ = some (.string (nameB (k : Int))) := by
        rw [hw2, World.cell?_alloc_new, names_at k hk, NMK.out]
      clear hw2
      go_wp2_with fail
      refine (has_any _ _ _).mono ?_
      rintro e w3 ⟨rfl, hb3⟩
      rw [g1]
      clear hcN
      go_wp2_with fail
      refine (has_any _ _ _).mono ?_
      rintro e w4 ⟨rfl, hb4⟩
      rw [g2]
      have hb23 := b_call (b_call (b_call hb1 hb2) hb3) hb4
      obtain ⟨c0, c1, c2, c3⟩ := cells4 hb23
      have hB3 := b_call hB hb23
      have lt3 : w.heap.size < w4.heap.size := by have := hb23.size; simp only [World.size_alloc] at this; omega
      clear hb1 hb2 hb3 hb4
      go_upto_region 11 with fail
      refine wp_region_over_lit (by kernel_rfl) (by kernel_rfl) ?_
      repeat (quiet_step ((first | (go_at_call 13; exact over_call (has_any _ _ _)) | (go_at_call 14; exact over_call (name_any _ _)) | (go_at_call 16; exact over_call (ours_any _ _ _ _ _)) | (go_at_call 15; exact over_call (may_any _ _ _ _ _)) | (go_at_call 17; exact over_call (rmay_any _ _ _ _ _)) | (go_at_call 18; exact over_call (awake24 _)))))
      refine wpQuiet_nil ?_
      intro w9 hb9; replace hb9 := over_elim hb9; obtain ⟨hc9, hf9⟩ := bcell hb9; have hz9 := hb9.size; try simp only [World.size_alloc, World.size_setCell, World.size_drew] at hz9
      go_wp2
      go_ret
      exact ⟨rfl, b_call hB3 hb9⟩
    · clear nmk
      have e1 : shN (k : Int) = 1 := hn
      clear hn
      rw [e1] at f1 f2
      have g1 : hasB (k : Int) 97 = true := f1
      have g2 : hasB (k : Int) 98 = false := f2
      clear f1 f2
      go_wp2_with fail
      refine names_any _ |>.mono ?_
      rintro e w2 ⟨rfl, hw2⟩
      have hb2 : Below w1.heap.size w1 w2 := by rw [hw2]; exact b_alloc (Below.refl _ _) _
      have hcN : w2.cell? ⟨w1.heap.size, k, none⟩ = some (.string (nameB (k : Int))) := by
        rw [hw2, World.cell?_alloc_new, names_at k hk, NMK.out]
      clear hw2
      go_wp2_with fail
      refine (has_any _ _ _).mono ?_
      rintro e w3 ⟨rfl, hb3⟩
      rw [g1]
      clear hcN
      go_wp2_with fail
      refine (has_any _ _ _).mono ?_
      rintro e w4 ⟨rfl, hb4⟩
      rw [g2]
      have hb23 := b_call (b_call (b_call hb1 hb2) hb3) hb4
      obtain ⟨c0, c1, c2, c3⟩ := cells4 hb23
      have hB3 := b_call hB hb23
      have lt3 : w.heap.size < w4.heap.size := by have := hb23.size; simp only [World.size_alloc] at this; omega
      clear hb1 hb2 hb3 hb4
      go_upto_region 11 with fail
      refine wp_region_over_lit (by kernel_rfl) (by kernel_rfl) ?_
      repeat (quiet_step ((first | (go_at_call 13; exact over_call (has_any _ _ _)) | (go_at_call 14; exact over_call (name_any _ _)) | (go_at_call 16; exact over_call (ours_any _ _ _ _ _)) | (go_at_call 15; exact over_call (may_any _ _ _ _ _)) | (go_at_call 17; exact over_call (rmay_any _ _ _ _ _)) | (go_at_call 18; exact over_call (awake24 _)))))
      refine wpQuiet_nil ?_
      intro w9 hb9; replace hb9 := over_elim hb9; obtain ⟨hc9, hf9⟩ := bcell hb9; have hz9 := hb9.size; try simp only [World.size_alloc, World.size_setCell, World.size_drew] at hz9
      go_wp2
      go_ret
      exact ⟨rfl, b_call hB3 hb9⟩
    · clear nmk
      have e1 : shN (k : Int) = 2 := hn
      clear hn
      rw [e1] at f1 f2
      have g1 : hasB (k : Int) 97 = true := f1
      have g2 : hasB (k : Int) 98 = true := f2
      clear f1 f2
      go_wp2_with fail
      refine names_any _ |>.mono ?_
      rintro e w2 ⟨rfl, hw2⟩
      have hb2 : Below w1.heap.size w1 w2 := by rw [hw2]; exact b_alloc (Below.refl _ _) _
      have hcN : w2.cell? ⟨w1.heap.size, k, none⟩ = some (.string (nameB (k : Int))) := by
        rw [hw2, World.cell?_alloc_new, names_at k hk, NMK.out]
      clear hw2
      go_wp2_with fail
      refine (has_any _ _ _).mono ?_
      rintro e w3 ⟨rfl, hb3⟩
      rw [g1]
      clear hcN
      go_wp2_with fail
      refine (has_any _ _ _).mono ?_
      rintro e w4 ⟨rfl, hb4⟩
      rw [g2]
      have hb23 := b_call (b_call (b_call hb1 hb2) hb3) hb4
      obtain ⟨c0, c1, c2, c3⟩ := cells4 hb23
      have hB3 := b_call hB hb23
      have lt3 : w.heap.size < w4.heap.size := by have := hb23.size; simp only [World.size_alloc] at this; omega
      clear hb1 hb2 hb3 hb4
      go_upto_region 11 with fail
      refine wp_region_over_lit (by kernel_rfl) (by kernel_rfl) ?_
      repeat (quiet_step ((first | (go_at_call 13; exact over_call (has_any _ _ _)) | (go_at_call 14; exact over_call (name_any _ _)) | (go_at_call 16; exact over_call (ours_any _ _ _ _ _)) | (go_at_call 15; exact over_call (may_any _ _ _ _ _)) | (go_at_call 17; exact over_call (rmay_any _ _ _ _ _)) | (go_at_call 18; exact over_call (awake24 _)))))
      refine wpQuiet_nil ?_
      intro w9 hb9; replace hb9 := over_elim hb9; obtain ⟨hc9, hf9⟩ := bcell hb9; have hz9 := hb9.size; try simp only [World.size_alloc, World.size_setCell, World.size_drew] at hz9
      go_wp2
      go_ret
      exact ⟨rfl, b_call hB3 hb9⟩
end Go.Proofs.Ytdhkemnebppkhaa
