/- The contracts of class's functions and of their references: each answers what layer 5's plain mathematics says, and writes nothing. No conditions beside the kinds' own bounds. -/
import Derived.Test.YtgbbnmjfkhconaaProg
import Derived.Test.YtgbbnmjfkhconaaBase
import Derived.Test.YtgbbnmjfkhconaaL5
namespace Go.Proofs.Ytgbbnmjfkhconaa
open Go.RowKit
set_option linter.unusedVariables false
set_option linter.unusedSimpArgs false
attribute [local go_sem] over_cell over_frozen
theorem may_any (c : Int) (w : World) : Calls Try.prog 103 #[.int .i64 c] w fun e w' => e = .returned (.bool (mayB c)) ∧ w = w' := by
  by_cases h : 0 ≤ c
  · have e : mayB c = decide (c < 4) := by unfold mayB; rw [decide_eq_true h, Bool.true_and]
    have H := Lib.hid e; clear e
    go_enter Try.func103, Try.ntmps103
    go_wp2
    go_ret
    exact ⟨by rw [H.out]; rfl, rfl⟩
  · have e : mayB c = false := by unfold mayB; rw [decide_eq_false h, Bool.false_and]
    have H := Lib.hid e; clear e
    go_enter Try.func103, Try.ntmps103
    go_wp2
    go_ret
    exact ⟨by rw [H.out]; rfl, rfl⟩
theorem size_any (c : Int) (w : World) : Calls Try.prog 66 #[.int .i64 c] w fun e w' => e = .returned (.int .i64 (sizeI c)) ∧ w = w' := by
  rcases class_cases c with rfl | rfl | rfl | rfl | ⟨hm, h, h1, _, _⟩
  case inr.inr.inr.inr =>
    have H := Lib.hid h1; clear h1
    clear h
    go_enter Try.func66, Try.ntmps66
    go_wp2_with (go_at_call 103; refine (may_any c _).mono ?_; rintro e w' ⟨rfl, rfl⟩)
    go_ret
    exact ⟨by rw [H.out]; rfl, rfl⟩
  all_goals
    go_enter Try.func66, Try.ntmps66
    go_wp2
    go_ret
    exact ⟨rfl, rfl⟩
theorem slots_any (c : Int) (w : World) : Calls Try.prog 100 #[.int .i64 c] w fun e w' => e = .returned (.int .i64 (slotsI c)) ∧ w = w' := by
  rcases class_cases c with rfl | rfl | rfl | rfl | ⟨hm, h, _, h1, _⟩
  case inr.inr.inr.inr =>
    have H := Lib.hid h1; clear h1
    clear h
    go_enter Try.func100, Try.ntmps100
    go_wp2_with (go_at_call 103; refine (may_any c _).mono ?_; rintro e w' ⟨rfl, rfl⟩)
    go_ret
    exact ⟨by rw [H.out]; rfl, rfl⟩
  all_goals
    go_enter Try.func100, Try.ntmps100
    go_wp2
    go_ret
    exact ⟨rfl, rfl⟩
theorem room_any (c : Int) (w : World) : Calls Try.prog 89 #[.int .i64 c] w fun e w' => e = .returned (.int .i64 (roomI c)) ∧ w = w' := by
  rcases class_cases c with rfl | rfl | rfl | rfl | ⟨hm, h, h1, _, h2⟩
  case inr.inr.inr.inr =>
    have H := Lib.hid h2; clear h2
    clear h
    go_enter Try.func89, Try.ntmps89
    go_wp2_with (go_at_call 66; refine (size_any c _).mono ?_; rintro e w' ⟨rfl, rfl⟩)
    go_ret
    exact ⟨by rw [H.out]; rfl, rfl⟩
  all_goals
    go_enter Try.func89, Try.ntmps89
    go_wp2
    go_ret
    exact ⟨rfl, rfl⟩
theorem ofcI_eq (n : Int) : (n < 1 ∧ ofcI n = 0 ∧ okI n = false) ∨ (1 ≤ n ∧ n ≤ 8 ∧ ofcI n = 0 ∧ okI n = true) ∨ (9 ≤ n ∧ n ≤ 24 ∧ ofcI n = 1 ∧ okI n = true) ∨ (25 ≤ n ∧ n ≤ 56 ∧ ofcI n = 2 ∧ okI n = true) ∨ (57 ≤ n ∧ n ≤ 120 ∧ ofcI n = 3 ∧ okI n = true) ∨ (121 ≤ n ∧ ofcI n = 0 ∧ okI n = false) := by
  have k : okI n = true ↔ 1 ≤ n ∧ n ≤ 120 := by unfold okI; simp
  have k' : okI n = false ↔ ¬ (1 ≤ n ∧ n ≤ 120) := by rw [← k]; simp
  by_cases h : okI n = true
  · have e : ofcI n = ofI n := by unfold ofcI; rw [if_pos h]
    rw [e]
    have h2 := k.1 h
    simp only [h, k', and_true]
    unfold ofI
    rw [if_neg (by omega)]
    repeat' split
    all_goals omega
  · have e : ofcI n = 0 := by unfold ofcI; rw [if_neg h]
    have h1 : okI n = false := by simpa using h
    have h2 := k'.1 h1
    rcases (show n < 1 ∨ 121 ≤ n by omega) with h3 | h3
    · exact Or.inl ⟨h3, e, h1⟩
    · exact Or.inr (Or.inr (Or.inr (Or.inr (Or.inr ⟨h3, e, h1⟩))))
theorem pagesI_eq (n : Int) : (n ≤ 120 ∧ pagesI n = 0 ∧ greatI n = false) ∨ (4097 ≤ n ∧ pagesI n = 0 ∧ greatI n = false) ∨ (121 ≤ n ∧ n ≤ 4096 ∧ pagesI n = (n + 8 + 256 - 1) / 256 ∧ greatI n = true) := by
  have k : greatI n = true ↔ 121 ≤ n ∧ n ≤ 4096 := by unfold greatI; simp
  have k' : greatI n = false ↔ ¬ (121 ≤ n ∧ n ≤ 4096) := by rw [← k]; simp
  by_cases h : greatI n = true
  · have e : pagesI n = (n + 8 + 256 - 1) / 256 := by unfold pagesI; rw [if_pos h]; omega
    have h2 := k.1 h
    exact Or.inr (Or.inr ⟨h2.1, h2.2, e, h⟩)
  · have e : pagesI n = 0 := by unfold pagesI; rw [if_neg h]
    have h1 : greatI n = false := by simpa using h
    have h2 := k'.1 h1
    rcases (show n ≤ 120 ∨ 4097 ≤ n by omega) with h3 | h3
    · exact Or.inl ⟨h3, e, h1⟩
    · exact Or.inr (Or.inl ⟨h3, e, h1⟩)
theorem baseI_out (p c k : Int) (h : ¬ (0 ≤ p ∧ p < 256 ∧ 0 ≤ k ∧ k < slotsI c)) : baseI p c k = -1 := by unfold baseI; rw [if_neg h]
theorem baseI_in (p c k : Int) (h : 0 ≤ p ∧ p < 256 ∧ 0 ≤ k ∧ k < slotsI c) : baseI p c k = 256 * p + sizeI c * k := by unfold baseI; rw [if_pos h]
theorem size_mul (c k : Int) (h : 0 ≤ k) (h' : k < slotsI c) : 0 ≤ sizeI c * k ∧ sizeI c * k + sizeI c ≤ 256 := by
  rcases class_cases c with rfl | rfl | rfl | rfl | ⟨_, _, _, e, _⟩
  · have e1 : sizeI 0 = 16 := rfl
    have e2 : slotsI 0 = 16 := rfl
    rw [e1]; rw [e2] at h'; omega
  · have e1 : sizeI 1 = 32 := rfl
    have e2 : slotsI 1 = 8 := rfl
    rw [e1]; rw [e2] at h'; omega
  · have e1 : sizeI 2 = 64 := rfl
    have e2 : slotsI 2 = 4 := rfl
    rw [e1]; rw [e2] at h'; omega
  · have e1 : sizeI 3 = 128 := rfl
    have e2 : slotsI 3 = 2 := rfl
    rw [e1]; rw [e2] at h'; omega
  · omega
theorem base_any (p c k : Int) (w : World) : Calls Try.prog 111 #[.int .i64 p, .int .i64 c, .int .i64 k] w fun e w' => e = .returned (.int .i64 (baseI p c k)) ∧ w = w' := by
  by_cases h : 0 ≤ p ∧ p < 256 ∧ 0 ≤ k ∧ k < slotsI c
  · have G := Lib.hid (baseI_in p c k h)
    obtain ⟨h1, h2, h3, h4⟩ := h
    have M := size_mul c k h3 h4
    have B := sizeI_bd c
    go_enter Try.func111, Try.ntmps111
    go_wp2_with (first | (go_at_call 100; refine (slots_any c _).mono ?_; rintro e w' ⟨rfl, rfl⟩) | (go_at_call 66; refine (size_any c _).mono ?_; rintro e w' ⟨rfl, rfl⟩))
    go_ret
    exact ⟨by rw [G.out]; rfl, rfl⟩
  · have G := Lib.hid (baseI_out p c k h)
    rcases (show p < 0 ∨ (0 ≤ p ∧ 256 ≤ p) ∨ (0 ≤ p ∧ p < 256 ∧ k < 0) ∨ (0 ≤ p ∧ p < 256 ∧ 0 ≤ k ∧ slotsI c ≤ k) by omega) with h | ⟨h, h'⟩ | ⟨h, h', h2⟩ | ⟨h, h', h2, h3⟩
    all_goals
      go_enter Try.func111, Try.ntmps111
      go_wp2_with (first | (go_at_call 100; refine (slots_any c _).mono ?_; rintro e w' ⟨rfl, rfl⟩))
      go_ret
      exact ⟨by rw [G.out]; rfl, rfl⟩
theorem inI_iff (a c : Int) : inI a c = true ↔ mayB c = true ∧ 0 ≤ a ∧ a < 65536 := by unfold inI; simp
theorem in_no {a c : Int} (h : ¬ (mayB c = true ∧ 0 ≤ a ∧ a < 65536)) : mayB c = false ∨ (mayB c = true ∧ a < 0) ∨ (mayB c = true ∧ 0 ≤ a ∧ 65536 ≤ a) := by
  cases hm : mayB c with
  | false => exact Or.inl rfl
  | true =>
    have h' : ¬ (0 ≤ a ∧ a < 65536) := fun x => h ⟨hm, x⟩
    rcases (show a < 0 ∨ (0 ≤ a ∧ 65536 ≤ a) by omega) with x | x
    · exact Or.inr (Or.inl ⟨rfl, x⟩)
    · exact Or.inr (Or.inr ⟨rfl, x⟩)
theorem slot_any (a c : Int) (w : World) : Calls Try.prog 88 #[.int .i64 a, .int .i64 c] w fun e w' => e = .returned (.tuple #[.int .i64 (slotpI a c), .int .i64 (slotkI a c)]) ∧ Below w.heap.size w w' := by
  by_cases h : inI a c = true
  · have g : slotpI a c = a / 256 := by unfold slotpI; rw [if_pos h]
    have g' : slotkI a c = a % 256 / sizeI c := by unfold slotkI; rw [if_pos h]
    rw [inI_iff] at h
    obtain ⟨h1, h2, h3⟩ := h
    have M := slots_size c h1
    have M1 : 1 ≤ sizeI c := by omega
    have M2 := sizeI_bd c
    have M3 : sizeI c ≠ 0 := by omega
    have r1 : IntKind.i64.wrap (a.tdiv 256) = a / 256 := IntWalk.i64_quo _ _ (by omega)
    have r2 : a.tmod 256 = a % 256 := IntWalk.rem_in _ _ h2
    have r3 : IntKind.i64.wrap ((a % 256).tdiv (sizeI c)) = a % 256 / sizeI c := IntWalk.i64_quo _ _ (by omega)
    have G := Lib.hid g; have G' := Lib.hid g'; clear g g' M
    go_enter Try.func88, Try.ntmps88
    go_wp2_with (first | (go_at_call 103; refine (may_any c _).mono ?_; rintro e w' ⟨rfl, rfl⟩))
    refine wp_region_over_lit (by kernel_rfl) (by kernel_rfl) ?_
    repeat (quiet_step ((first | (go_at_call 66; exact over_call_same (size_any c _)))))
    refine wpQuiet_nil ?_
    intro w1 hb1; replace hb1 := over_elim hb1; obtain ⟨hc1, hf1⟩ := bcell hb1; have hz1 := hb1.size; try simp only [World.size_alloc, World.size_setCell, World.size_drew] at hz1
    go_wp2
    go_ret2
    exact ⟨by rw [G.out, G'.out]; rfl, by (repeat' (first | exact Below.refl _ _ | assumption | refine b_alloc ?_ _ | refine b_over ?_ _ | refine b_drew ?_ | refine b_call ?_ (by assumption)))⟩
  · have g : slotpI a c = -1 := by unfold slotpI; rw [if_neg h]
    have g' : slotkI a c = -1 := by unfold slotkI; rw [if_neg h]
    rw [inI_iff] at h
    have G := Lib.hid g; have G' := Lib.hid g'; clear g g'
    rcases in_no h with h | ⟨h, h'⟩ | ⟨h, h', h2⟩
    all_goals
      go_enter Try.func88, Try.ntmps88
      go_wp2_with (first | (go_at_call 103; refine (may_any c _).mono ?_; rintro e w' ⟨rfl, rfl⟩))
      go_ret2
      exact ⟨by rw [G.out, G'.out]; rfl, by (repeat' (first | exact Below.refl _ _ | assumption | refine b_alloc ?_ _ | refine b_over ?_ _ | refine b_drew ?_ | refine b_call ?_ (by assumption)))⟩
theorem rsize_any (c : Int) (w : World) : Calls Try.prog 59 #[.int .i64 c] w fun e w' => e = .returned (.int .i64 (sizeI c)) ∧ w = w' := by
  rcases class_cases c with rfl | rfl | rfl | rfl | ⟨_, h, h1, _, _⟩
  case inr.inr.inr.inr =>
    have H := Lib.hid h1; clear h1
    have t0 : (c == 0) = false := beq_false_of_ne (by omega)
    have t1 : (c == 1) = false := beq_false_of_ne (by omega)
    have t2 : (c == 2) = false := beq_false_of_ne (by omega)
    have t3 : (c == 3) = false := beq_false_of_ne (by omega)
    go_enter Try.func59, Try.ntmps59
    go_wp2
    go_ret
    exact ⟨by rw [H.out]; rfl, rfl⟩
  all_goals
    go_enter Try.func59, Try.ntmps59
    go_wp2
    go_ret
    exact ⟨rfl, rfl⟩
theorem rslots_any (c : Int) (w : World) : Calls Try.prog 56 #[.int .i64 c] w fun e w' => e = .returned (.int .i64 (slotsI c)) ∧ w = w' := by
  rcases class_cases c with rfl | rfl | rfl | rfl | ⟨_, _, h1, h2, _⟩
  case inr.inr.inr.inr =>
    have H := Lib.hid h2; clear h2
    go_enter Try.func56, Try.ntmps56
    go_wp2
    go_loop [3] (fun n => n = .int .i64 0) (fun _ => 0)
    case atStart => rfl
    case round =>
      subst hrel
      go_wp2_with (go_at_call 59; refine (rsize_any c _).mono ?_; rintro e w' ⟨rfl, rfl⟩)
      go_ret
      exact ⟨by rw [H.out]; rfl, rfl⟩
  case inl =>
    have e : sizeI 0 = 16 := rfl
    go_enter Try.func56, Try.ntmps56
    go_wp2
    go_loop [3] (fun n => ∃ k : Int, 0 ≤ k ∧ k ≤ 16 ∧ n = .int .i64 k) (fun n => (16 - intOf n).toNat)
    case atStart => exact ⟨0, by omega, by omega, rfl⟩
    case round =>
      obtain ⟨k, hk, hk', rfl⟩ := hrel
      by_cases h : k < 16
      · go_wp2_with (go_at_call 59; refine (rsize_any 0 _).mono ?_; rintro e w' ⟨rfl, rfl⟩)
        go_round
        case rel => exact ⟨k + 1, by omega, by omega, rfl⟩
        case measure => simp [intOf]; omega
      · obtain rfl : k = 16 := by omega
        go_wp2_with (go_at_call 59; refine (rsize_any 0 _).mono ?_; rintro e w' ⟨rfl, rfl⟩)
        go_ret
        exact ⟨rfl, rfl⟩
  all_goals
    go_enter Try.func56, Try.ntmps56
    go_wp2
    go_rounds 9
    go_ret
    exact ⟨rfl, rfl⟩
theorem ofI_eq (n : Int) : (n < 1 ∧ ofI n = -1) ∨ (1 ≤ n ∧ n ≤ 8 ∧ ofI n = 0) ∨ (9 ≤ n ∧ n ≤ 24 ∧ ofI n = 1) ∨ (25 ≤ n ∧ n ≤ 56 ∧ ofI n = 2) ∨ (57 ≤ n ∧ n ≤ 120 ∧ ofI n = 3) ∨ (121 ≤ n ∧ ofI n = -1) := by
  unfold ofI
  repeat' split
  all_goals omega
end Go.Proofs.Ytgbbnmjfkhconaa
