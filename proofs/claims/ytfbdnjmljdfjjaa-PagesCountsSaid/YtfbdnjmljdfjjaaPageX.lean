/- Layer 4's helpers of the statements: a table has the document's rows; one call of both. Conditions: at most 256 pages; a whole table. -/
import Derived.Test.YtfbdnjmljdfjjaaPageW
namespace Go.Proofs.Ytfbdnjmljdfjjaa
open Go.RowKit
set_option linter.unusedVariables false
set_option linter.unusedSimpArgs false
attribute [local go_sem] over_cell over_frozen field_k field_n
theorem same4_any {w : World} {b g cap g2 cap2 : Nat} {L : List Row4} (h : TabAt w b g cap L) (h' : RL w g2 cap2 L) : Calls Try.prog 17 #[tp b, rv g2 L cap2] w fun e w' => e = .returned (.bool true) ∧ Below w.heap.size w w' := by
  have hmx := h.mx
  have hg2 := h'.rw.1
  have HC := Lib.hid (rl_cells h')
  have HL : Hid (∀ w', Below w.heap.size w w' → Calls Try.prog 13 #[tp b] w' fun e w2 => e = .returned (.int .i64 L.length) ∧ w' = w2) := Lib.hid (fun w' hb => tlen_any (tab_below h hb))
  have HR : Hid (∀ w', Below w.heap.size w w' → ∀ a, Calls Try.prog 12 #[tp b, .int .i64 a] w' fun e w2 => e = .returned (agg4 (rowI L a)) ∧ Below w'.heap.size w' w2) := Lib.hid (fun w' hb a => trow_any (tab_below h hb) a)
  have t0 : ((L.length : Int) != (L.length : Int)) = false := by simp
  clear h h'
  unfold rv tp at *
  go_enter Try.func17, Try.ntmps17
  go_wp2_with fail
  refine (HL.out _ (Below.refl _ _)).mono ?_
  rintro e w1 ⟨rfl, rfl⟩
  go_wp2_with fail
  go_loopw [14] (fun i wr => ∃ k : Nat, i = .int .i64 k ∧ k ≤ L.length ∧ Below w.heap.size w wr) (fun i _ => L.length - (intOf i).toNat)
  case atStart => exact ⟨0, rfl, by omega, Below.refl _ _⟩
  case round =>
    obtain ⟨k, rfl, hk, hbw⟩ := hrel
    obtain ⟨q1, q2⟩ := bcell hbw
    by_cases hlt : k < L.length
    · obtain ⟨d0, d1, d2, d3⟩ := HC.out k hlt
      have k0 : (0 : Int) ≤ k := by omega
      have k1 : (k : Int) < L.length := by omega
      have k2 : (k : Int) ≤ 256 := by omega
      rw [← q1 _ _ hg2] at d0 d1 d2 d3
      have hro := rowI_in hlt
      have HRK : Hid (∀ w', Below w.heap.size w w' → Calls Try.prog 12 #[.pointer (some ⟨b, 0, none⟩), .int .i64 k] w' fun e w2 => e = .returned (agg4 L[k]) ∧ Below w'.heap.size w' w2) := Lib.hid (fun w' hb => by rw [← hro]; exact HR.out w' hb k)
      generalize L[k] = r at *
      clear hro q1 q2
      have hB := b_alloc hbw (.cells #[.int .i64 r.k, .int .i64 r.c, .int .i64 r.o, .int .i64 r.n] 28)
      unfold agg4 at HRK
      have hour := fun w => ours_any r w
      unfold agg4 at hour
      have HOUR := Lib.hid hour; clear hour
      go_upto_region 6 with fail
      refine wp_region_over_lit (by kernel_rfl) (by kernel_rfl) ?_
      repeat (quiet_step ((first | (go_at_call 12; exact over_call (HRK.out _ (b_over hB _))) | (go_at_call 23; exact over_call (HOUR.out _)))))
      refine wpQuiet_nil ?_
      intro w3 hb3; replace hb3 := over_elim hb3; obtain ⟨hc3, hf3⟩ := bcell hb3; have hz3 := hb3.size; try simp only [World.size_alloc, World.size_setCell, World.size_drew] at hz3
      go_wp2_with fail
      go_roundw
      case rel => exact ⟨k + 1, by go_num, by omega, b_call hB hb3⟩
      case measure => simp only [intOf]; omega
    · obtain rfl : k = L.length := by omega
      have h1 := rowI_neg (L := L) (a := -1) (by omega)
      have h2 := rowI_out (L := L) (a := L.length) (Int.le_refl _)
      have HR1 := HR.out _ hbw (-1)
      rw [h1] at HR1
      have HR2 : Hid (∀ w', Below w.heap.size w w' → Calls Try.prog 12 #[.pointer (some ⟨b, 0, none⟩), .int .i64 L.length] w' fun e w2 => e = .returned (agg4 zr) ∧ Below w'.heap.size w' w2) := Lib.hid (fun w' hb => by rw [← h2]; exact HR.out w' hb L.length)
      have HR1' := Lib.hid HR1
      clear h1 h2 HR1 HR q1 q2
      go_wp2_with fail
      refine HR1'.out.mono ?_
      rintro e w2 ⟨rfl, hb2⟩
      have hB2 := b_call hbw hb2
      unfold agg4 zr
      go_wp2_with fail
      refine (HR2.out _ hB2).mono ?_
      rintro e w3 ⟨rfl, hb3⟩
      have hB3 := b_call hB2 hb3
      unfold agg4 zr
      go_wp2_with fail
      go_ret
      exact ⟨rfl, hB3⟩
end Go.Proofs.Ytfbdnjmljdfjjaa
