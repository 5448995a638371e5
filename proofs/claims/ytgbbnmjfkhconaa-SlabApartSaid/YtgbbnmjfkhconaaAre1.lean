/- Layer 3's arenas: the contracts of New, Len, in, word, Word, SetWord, Store, Fill, Load, Copy. Conditions: an arena of at most 65536 bytes. -/
import Derived.Test.YtgbbnmjfkhconaaAreL
import Derived.Test.YtgbbnmjfkhconaaHeldE
namespace Go.Proofs.Ytgbbnmjfkhconaa
open Go.RowKit
set_option linter.unusedVariables false
set_option linter.unusedSimpArgs false
attribute [local go_sem] over_cell over_frozen
theorem alen_any {w : World} {b g cap : Nat} {L : List Int} (h : AreAt w b g cap L) : Calls Try.prog 42 #[tp b] w fun e w' => e = .returned (.int .i64 L.length) ∧ w = w' := by
  obtain ⟨h0, hf⟩ := blk1 h.hd
  unfold tp
  clear h
  go_enter Try.func42, Try.ntmps42
  go_wp2_with fail
  go_ret
  exact ⟨rfl, rfl⟩
theorem alen_nil (w : World) : Calls Try.prog 42 #[.pointer none] w fun e w' => e = .returned (.int .i64 0) ∧ w = w' := by
  go_enter Try.func42, Try.ntmps42
  go_wp2_with fail
  go_ret
  exact ⟨rfl, rfl⟩
theorem ain_any {w : World} {b g cap : Nat} {L : List Int} (h : AreAt w b g cap L) (a n : Int) : Calls Try.prog 67 #[tp b, .int .i64 a, .int .i64 n] w fun e w' => e = .returned (.int .i64 (inE L.length a n)) ∧ w = w' := by
  obtain ⟨h0, hf⟩ := blk1 h.hd
  have hmx := h.mx
  unfold tp
  clear h
  generalize L.length = N at *
  rcases (show a < 0 ∨ (0 ≤ a ∧ n < 0) ∨ (0 ≤ a ∧ 0 ≤ n ∧ (N : Int) < n) ∨ (0 ≤ a ∧ 0 ≤ n ∧ n ≤ N ∧ N - n < a) ∨ (0 ≤ a ∧ 0 ≤ n ∧ n ≤ N ∧ a ≤ N - n) by omega) with q | ⟨q1, q⟩ | ⟨q1, q2, q⟩ | ⟨q1, q2, q3, q⟩ | ⟨q1, q2, q3, q⟩
  · rw [show inE N a n = 3 from if_neg (by omega)]
    go_enter Try.func67, Try.ntmps67
    go_wp2_with fail
    go_ret
    exact ⟨rfl, rfl⟩
  · rw [show inE N a n = 3 from if_neg (by omega)]
    go_enter Try.func67, Try.ntmps67
    go_wp2_with fail
    go_ret
    exact ⟨rfl, rfl⟩
  · rw [show inE N a n = 3 from if_neg (by omega)]
    go_enter Try.func67, Try.ntmps67
    go_wp2_with fail
    go_ret
    exact ⟨rfl, rfl⟩
  · rw [show inE N a n = 3 from if_neg (by omega)]
    go_enter Try.func67, Try.ntmps67
    go_wp2_with fail
    go_ret
    exact ⟨rfl, rfl⟩
  · rw [show inE N a n = 0 from if_pos (by omega)]
    go_enter Try.func67, Try.ntmps67
    go_wp2_with fail
    go_ret
    exact ⟨rfl, rfl⟩
theorem ain_nil (a n : Int) (w : World) : Calls Try.prog 67 #[.pointer none, .int .i64 a, .int .i64 n] w fun e w' => e = .returned (.int .i64 2) ∧ w = w' := by
  go_enter Try.func67, Try.ntmps67
  go_wp2_with fail
  go_ret
  exact ⟨rfl, rfl⟩
theorem awd_any {w : World} {b g cap : Nat} {L : List Int} (h : AreAt w b g cap L) (a : Int) : Calls Try.prog 72 #[tp b, .int .i64 a] w fun e w' => e = .returned (.int .i64 (wordE L.length a)) ∧ w = w' := by
  have hin := Lib.hid (ain_any h a 8)
  unfold tp at *
  clear h
  rcases wordE_cases L.length a with ⟨h1, h2⟩ | ⟨h1, h2, h3, h4⟩ | ⟨h1, h2, k, rfl, h3, h4⟩
  · rw [h1]
    rw [h2] at hin
    clear h1 h2
    go_enter Try.func72, Try.ntmps72
    go_wp2_with fail
    refine hin.out.mono ?_
    rintro e w1 ⟨rfl, rfl⟩
    go_wp2_with fail
    go_ret
    exact ⟨rfl, rfl⟩
  · rw [h1]
    rw [h2] at hin
    have t1 : (a.tmod 8 == 0) = false := by rw [beq_eq_false_iff_ne, Int.tmod_eq_emod_of_nonneg h3]; exact h4
    have t2 : ¬ (a.tmod 8 = 0) := by rw [Int.tmod_eq_emod_of_nonneg h3]; exact h4
    clear h1 h2
    go_enter Try.func72, Try.ntmps72
    go_wp2_with fail
    refine hin.out.mono ?_
    rintro e w1 ⟨rfl, rfl⟩
    go_wp2_with fail
    go_ret
    exact ⟨rfl, rfl⟩
  · rw [h1]
    rw [h2] at hin
    have t1 : (k : Int).tmod 8 = 0 := by rw [Int.tmod_eq_emod_of_nonneg (by omega)]; omega
    have t2 : (k : Int) % 8 = 0 := by omega
    clear h1 h2
    go_enter Try.func72, Try.ntmps72
    go_wp2_with fail
    refine hin.out.mono ?_
    rintro e w1 ⟨rfl, rfl⟩
    go_wp2_with fail
    go_ret
    exact ⟨rfl, rfl⟩
theorem awd_nil (a : Int) (w : World) : Calls Try.prog 72 #[.pointer none, .int .i64 a] w fun e w' => e = .returned (.int .i64 2) ∧ w = w' := by
  go_enter Try.func72, Try.ntmps72
  go_wp2_with fail
  refine (ain_nil _ _ _).mono ?_
  rintro e w1 ⟨rfl, rfl⟩
  go_wp2_with fail
  go_ret
  exact ⟨rfl, rfl⟩
theorem aword_any {w : World} {b g cap : Nat} {L : List Int} (h : AreAt w b g cap L) (a : Int) : Calls Try.prog 33 #[tp b, .int .i64 a] w fun e w' => e = .returned (.tuple #[.int .u64 (if wordE L.length a = 0 then getW L a.toNat else 0), .int .i64 (wordE L.length a)]) ∧ w = w' := by
  have hin := Lib.hid (awd_any h a)
  obtain ⟨h0, hf⟩ := blk1 h.hd
  have H := Lib.hid h
  unfold tp at *
  have hle := h.le
  have hcp := h.cp
  have hmx := h.mx
  clear h
  rcases wordE_cases L.length a with ⟨h1, _⟩ | ⟨h1, _⟩ | ⟨h1, _, k, rfl, h3, _⟩
  · rw [h1] at hin ⊢
    go_enter Try.func33, Try.ntmps33
    go_wp2_with fail
    refine hin.out.mono ?_
    rintro e w1 ⟨rfl, rfl⟩
    go_wp2_with fail
    go_ret2
    exact ⟨rfl, rfl⟩
  · rw [h1] at hin ⊢
    go_enter Try.func33, Try.ntmps33
    go_wp2_with fail
    refine hin.out.mono ?_
    rintro e w1 ⟨rfl, rfl⟩
    go_wp2_with fail
    go_ret2
    exact ⟨rfl, rfl⟩
  · rw [h1] at hin ⊢
    rw [if_pos rfl, Int.toNat_natCast]
    have hcap := cap_le hcp
    have k0 : (0 : Int) ≤ k := by omega
    have k1 : (k : Int) ≤ 65528 := by omega
    have k2 : (k : Int) + 8 ≤ cap := by omega
    have h8 : Hid (ReadB w (.slice (some ⟨g, k, none⟩) 8 (cap - k)) ((L.drop k).take 8)) := readB_sub H.out.rw H.out.le H.out.cp h3 (fun _ => rfl) rfl (by intro e; cases e)
    have HBY : Hid (IsBytes ((L.drop k).take 8)) := isBytes_take (isBytes_drop H.out.by_ k) 8
    have HLN : Hid (((L.drop k).take 8).length ≤ 8) := by show _ ≤ _; rw [List.length_take]; omega
    have HG : Hid (getW L k = getL (((L.drop k).take 8).take 8)) := by show _ = _; rw [List.take_take]; rfl
    go_enter Try.func33, Try.ntmps33
    go_wp2_with fail
    refine hin.out.mono ?_
    rintro e w1 ⟨rfl, rfl⟩
    go_wp2_with fail
    refine (nget_any _ ((L.drop k).take 8) _ h8.out HBY.out (by have := HLN.out; omega)).mono ?_
    rintro e w1 ⟨rfl, rfl⟩
    go_wp2_with fail
    go_ret2
    exact ⟨by rw [HG.out]; rfl, rfl⟩
theorem aword_nil (a : Int) (w : World) : Calls Try.prog 33 #[.pointer none, .int .i64 a] w fun e w' => e = .returned (.tuple #[.int .u64 0, .int .i64 2]) ∧ w = w' := by
  go_enter Try.func33, Try.ntmps33
  go_wp2_with fail
  refine (awd_nil _ _).mono ?_
  rintro e w1 ⟨rfl, rfl⟩
  go_wp2_with fail
  go_ret2
  exact ⟨rfl, rfl⟩
end Go.Proofs.Ytgbbnmjfkhconaa
