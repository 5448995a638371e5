/- The walks of class's five laws. No conditions. -/
import Derived.Test.YtakcodbbecdfkaaClass
namespace Go.Proofs.Ytakcodbbecdfkaa
open Go.RowKit
set_option linter.unusedVariables false
set_option linter.unusedSimpArgs false
theorem classSizes_any (c : Int) (w : World) : Calls Try.prog 8 #[.int .i64 c] w fun e w' => e = .returned (.bool true) ∧ Below w.heap.size w w' := by
  cases hm : mayB c with
  | true =>
    have M := slots_size c hm
    have B := sizeI_bd c
    have t1 : (roomI c == sizeI c - 8) = true := by rw [M.2.2]; simp
    have t2 : 0 < sizeI c := by omega
    clear M
    go_enter Try.func8, Try.ntmps8
    go_wp2_with (first | (go_at_call 30; refine (rsize_any _ _).mono ?_; rintro e w1 ⟨rfl, rfl⟩) | (go_at_call 31; refine (size_any _ _).mono ?_; rintro e w1 ⟨rfl, rfl⟩) | (go_at_call 33; refine (rslots_any _ _).mono ?_; rintro e w1 ⟨rfl, rfl⟩) | (go_at_call 32; refine (slots_any _ _).mono ?_; rintro e w1 ⟨rfl, rfl⟩) | (go_at_call 34; refine (room_any _ _).mono ?_; rintro e w1 ⟨rfl, rfl⟩) | (go_at_call 36; refine (of_any _ _).mono ?_; rintro e w1 ⟨rfl, rfl⟩) | (go_at_call 37; refine (pages_any _ _).mono ?_; rintro e w1 ⟨rfl, rfl⟩) | (go_at_call 38; refine (rof_any _ _).mono ?_; rintro e w1 ⟨rfl, rfl⟩) | (go_at_call 39; refine (rpages_any _ _).mono ?_; rintro e w1 ⟨rfl, rfl⟩) | (go_at_call 40; refine (base_any _ _ _ _).mono ?_; rintro e w1 ⟨rfl, rfl⟩) | (go_at_call 41; refine (slot_any _ _ _).mono ?_; rintro e w1 ⟨rfl, hb1⟩) | (go_at_call 35; refine (awake5_any _).mono ?_; rintro e w2 ⟨rfl, hb2⟩))
    go_ret
    exact ⟨rfl, by (repeat' (first | exact Below.refl _ _ | assumption | refine b_alloc ?_ _ | refine b_over ?_ _ | refine b_drew ?_ | refine b_call ?_ (by assumption)))⟩
  | false =>
    have e : sizeI c = 0 ∧ slotsI c = 0 ∧ roomI c = 0 := by
      rcases class_cases c with rfl | rfl | rfl | rfl | ⟨_, _, h1, h2, h3⟩
      · exact absurd hm (by decide)
      · exact absurd hm (by decide)
      · exact absurd hm (by decide)
      · exact absurd hm (by decide)
      · exact ⟨h1, h2, h3⟩
    obtain ⟨e1, e2, e3⟩ := e
    go_enter Try.func8, Try.ntmps8
    go_wp2_with (first | (go_at_call 30; refine (rsize_any _ _).mono ?_; rintro e w1 ⟨rfl, rfl⟩) | (go_at_call 31; refine (size_any _ _).mono ?_; rintro e w1 ⟨rfl, rfl⟩) | (go_at_call 33; refine (rslots_any _ _).mono ?_; rintro e w1 ⟨rfl, rfl⟩) | (go_at_call 32; refine (slots_any _ _).mono ?_; rintro e w1 ⟨rfl, rfl⟩) | (go_at_call 34; refine (room_any _ _).mono ?_; rintro e w1 ⟨rfl, rfl⟩) | (go_at_call 36; refine (of_any _ _).mono ?_; rintro e w1 ⟨rfl, rfl⟩) | (go_at_call 37; refine (pages_any _ _).mono ?_; rintro e w1 ⟨rfl, rfl⟩) | (go_at_call 38; refine (rof_any _ _).mono ?_; rintro e w1 ⟨rfl, rfl⟩) | (go_at_call 39; refine (rpages_any _ _).mono ?_; rintro e w1 ⟨rfl, rfl⟩) | (go_at_call 40; refine (base_any _ _ _ _).mono ?_; rintro e w1 ⟨rfl, rfl⟩) | (go_at_call 41; refine (slot_any _ _ _).mono ?_; rintro e w1 ⟨rfl, hb1⟩) | (go_at_call 35; refine (awake5_any _).mono ?_; rintro e w2 ⟨rfl, hb2⟩))
    go_ret
    exact ⟨rfl, by (repeat' (first | exact Below.refl _ _ | assumption | refine b_alloc ?_ _ | refine b_over ?_ _ | refine b_drew ?_ | refine b_call ?_ (by assumption)))⟩
theorem great_bd (n : Int) (h : 121 ≤ n) (h' : n ≤ 4096) : greatI n = true ∧ 0 < pagesI n ∧ pagesI n ≤ 17 ∧ n ≤ 256 * pagesI n - 8 ∧ 256 * (pagesI n - 1) < n + 8 := by
  rcases pagesI_eq n with ⟨h1, _⟩ | ⟨h1, _⟩ | ⟨_, _, g, g'⟩
  · omega
  · omega
  · exact ⟨g', by omega, by omega, by omega, by omega⟩
theorem small_bd (n : Int) (h : n ≤ 120 ∨ 4097 ≤ n) : greatI n = false ∧ pagesI n = 0 := by
  rcases pagesI_eq n with ⟨h1, g, g'⟩ | ⟨h1, g, g'⟩ | ⟨_, _, g, g'⟩
  · exact ⟨g', g⟩
  · exact ⟨g', g⟩
  · omega
theorem class_all (n : Int) : (n < 1 ∧ ofcI n = 0 ∧ okI n = false ∧ ofI n = -1 ∧ greatI n = false ∧ pagesI n = 0) ∨ (∃ c, (c = 0 ∨ c = 1 ∨ c = 2 ∨ c = 3) ∧ 1 ≤ n ∧ n ≤ 120 ∧ n ≤ roomI c ∧ ofcI n = c ∧ okI n = true ∧ ofI n = c ∧ greatI n = false ∧ pagesI n = 0 ∧ (0 < c → roomI (c - 1) < n)) ∨ (121 ≤ n ∧ n ≤ 4096 ∧ ofcI n = 0 ∧ okI n = false ∧ ofI n = -1) ∨ (4097 ≤ n ∧ ofcI n = 0 ∧ okI n = false ∧ ofI n = -1 ∧ greatI n = false ∧ pagesI n = 0) := by
  have a0 : roomI 0 = 8 := rfl
  have a1 : roomI 1 = 24 := rfl
  have a2 : roomI 2 = 56 := rfl
  have a3 : roomI 3 = 120 := rfl
  rcases ofcI_eq n with ⟨h, g, g'⟩ | ⟨h, h', g, g'⟩ | ⟨h, h', g, g'⟩ | ⟨h, h', g, g'⟩ | ⟨h, h', g, g'⟩ | ⟨h, g, g'⟩
  · have s := small_bd n (by omega)
    have o := ofI_eq n
    exact Or.inl ⟨h, g, g', by omega, s.1, s.2⟩
  · have s := small_bd n (by omega)
    have o := ofI_eq n
    exact Or.inr (Or.inl ⟨0, by omega, by omega, by omega, by omega, g, g', by omega, s.1, s.2, fun h => by omega⟩)
  · have s := small_bd n (by omega)
    have o := ofI_eq n
    exact Or.inr (Or.inl ⟨1, by omega, by omega, by omega, by omega, g, g', by omega, s.1, s.2, fun _ => by show roomI 0 < n; omega⟩)
  · have s := small_bd n (by omega)
    have o := ofI_eq n
    exact Or.inr (Or.inl ⟨2, by omega, by omega, by omega, by omega, g, g', by omega, s.1, s.2, fun _ => by show roomI 1 < n; omega⟩)
  · have s := small_bd n (by omega)
    have o := ofI_eq n
    exact Or.inr (Or.inl ⟨3, by omega, by omega, by omega, by omega, g, g', by omega, s.1, s.2, fun _ => by show roomI 2 < n; omega⟩)
  · have o := ofI_eq n
    by_cases k : n ≤ 4096
    · exact Or.inr (Or.inr (Or.inl ⟨h, k, g, g', by omega⟩))
    · have s := small_bd n (by omega)
      exact Or.inr (Or.inr (Or.inr ⟨by omega, g, g', by omega, s.1, s.2⟩))
set_option maxHeartbeats 400000 in
theorem classOf_any (n : Int) (w : World) : Calls Try.prog 9 #[.int .i64 n] w fun e w' => e = .returned (.bool true) ∧ Below w.heap.size w w' := by
  rcases class_all n with ⟨h, g1, g2, g3, g4, g5⟩ | ⟨c, hc, h, h', hr, g1, g2, g3, g4, g5, _⟩ | ⟨h, h', g1, g2, g3⟩ | ⟨h, g1, g2, g3, g4, g5⟩
  · go_enter Try.func9, Try.ntmps9
    go_wp2_with (first | (go_at_call 30; refine (rsize_any _ _).mono ?_; rintro e w1 ⟨rfl, rfl⟩) | (go_at_call 31; refine (size_any _ _).mono ?_; rintro e w1 ⟨rfl, rfl⟩) | (go_at_call 33; refine (rslots_any _ _).mono ?_; rintro e w1 ⟨rfl, rfl⟩) | (go_at_call 32; refine (slots_any _ _).mono ?_; rintro e w1 ⟨rfl, rfl⟩) | (go_at_call 34; refine (room_any _ _).mono ?_; rintro e w1 ⟨rfl, rfl⟩) | (go_at_call 36; refine (of_any _ _).mono ?_; rintro e w1 ⟨rfl, rfl⟩) | (go_at_call 37; refine (pages_any _ _).mono ?_; rintro e w1 ⟨rfl, rfl⟩) | (go_at_call 38; refine (rof_any _ _).mono ?_; rintro e w1 ⟨rfl, rfl⟩) | (go_at_call 39; refine (rpages_any _ _).mono ?_; rintro e w1 ⟨rfl, rfl⟩) | (go_at_call 40; refine (base_any _ _ _ _).mono ?_; rintro e w1 ⟨rfl, rfl⟩) | (go_at_call 41; refine (slot_any _ _ _).mono ?_; rintro e w1 ⟨rfl, hb1⟩) | (go_at_call 35; refine (awake5_any _).mono ?_; rintro e w2 ⟨rfl, hb2⟩))
    go_ret
    exact ⟨rfl, by (repeat' (first | exact Below.refl _ _ | assumption | refine b_alloc ?_ _ | refine b_over ?_ _ | refine b_drew ?_ | refine b_call ?_ (by assumption)))⟩
  · have c0 : 0 ≤ c := by omega
    clear hc
    go_enter Try.func9, Try.ntmps9
    go_wp2_with (first | (go_at_call 30; refine (rsize_any _ _).mono ?_; rintro e w1 ⟨rfl, rfl⟩) | (go_at_call 31; refine (size_any _ _).mono ?_; rintro e w1 ⟨rfl, rfl⟩) | (go_at_call 33; refine (rslots_any _ _).mono ?_; rintro e w1 ⟨rfl, rfl⟩) | (go_at_call 32; refine (slots_any _ _).mono ?_; rintro e w1 ⟨rfl, rfl⟩) | (go_at_call 34; refine (room_any _ _).mono ?_; rintro e w1 ⟨rfl, rfl⟩) | (go_at_call 36; refine (of_any _ _).mono ?_; rintro e w1 ⟨rfl, rfl⟩) | (go_at_call 37; refine (pages_any _ _).mono ?_; rintro e w1 ⟨rfl, rfl⟩) | (go_at_call 38; refine (rof_any _ _).mono ?_; rintro e w1 ⟨rfl, rfl⟩) | (go_at_call 39; refine (rpages_any _ _).mono ?_; rintro e w1 ⟨rfl, rfl⟩) | (go_at_call 40; refine (base_any _ _ _ _).mono ?_; rintro e w1 ⟨rfl, rfl⟩) | (go_at_call 41; refine (slot_any _ _ _).mono ?_; rintro e w1 ⟨rfl, hb1⟩) | (go_at_call 35; refine (awake5_any _).mono ?_; rintro e w2 ⟨rfl, hb2⟩))
    go_ret
    exact ⟨rfl, by (repeat' (first | exact Below.refl _ _ | assumption | refine b_alloc ?_ _ | refine b_over ?_ _ | refine b_drew ?_ | refine b_call ?_ (by assumption)))⟩
  · obtain ⟨g4, g5, g6, g7, g8⟩ := great_bd n h h'
    go_enter Try.func9, Try.ntmps9
    go_wp2_with (first | (go_at_call 30; refine (rsize_any _ _).mono ?_; rintro e w1 ⟨rfl, rfl⟩) | (go_at_call 31; refine (size_any _ _).mono ?_; rintro e w1 ⟨rfl, rfl⟩) | (go_at_call 33; refine (rslots_any _ _).mono ?_; rintro e w1 ⟨rfl, rfl⟩) | (go_at_call 32; refine (slots_any _ _).mono ?_; rintro e w1 ⟨rfl, rfl⟩) | (go_at_call 34; refine (room_any _ _).mono ?_; rintro e w1 ⟨rfl, rfl⟩) | (go_at_call 36; refine (of_any _ _).mono ?_; rintro e w1 ⟨rfl, rfl⟩) | (go_at_call 37; refine (pages_any _ _).mono ?_; rintro e w1 ⟨rfl, rfl⟩) | (go_at_call 38; refine (rof_any _ _).mono ?_; rintro e w1 ⟨rfl, rfl⟩) | (go_at_call 39; refine (rpages_any _ _).mono ?_; rintro e w1 ⟨rfl, rfl⟩) | (go_at_call 40; refine (base_any _ _ _ _).mono ?_; rintro e w1 ⟨rfl, rfl⟩) | (go_at_call 41; refine (slot_any _ _ _).mono ?_; rintro e w1 ⟨rfl, hb1⟩) | (go_at_call 35; refine (awake5_any _).mono ?_; rintro e w2 ⟨rfl, hb2⟩))
    go_ret
    exact ⟨rfl, by (repeat' (first | exact Below.refl _ _ | assumption | refine b_alloc ?_ _ | refine b_over ?_ _ | refine b_drew ?_ | refine b_call ?_ (by assumption)))⟩
  · have t : decide (n ≤ 4096) = false := decide_eq_false (by omega)
    go_enter Try.func9, Try.ntmps9
    go_wp2_with (first | (go_at_call 30; refine (rsize_any _ _).mono ?_; rintro e w1 ⟨rfl, rfl⟩) | (go_at_call 31; refine (size_any _ _).mono ?_; rintro e w1 ⟨rfl, rfl⟩) | (go_at_call 33; refine (rslots_any _ _).mono ?_; rintro e w1 ⟨rfl, rfl⟩) | (go_at_call 32; refine (slots_any _ _).mono ?_; rintro e w1 ⟨rfl, rfl⟩) | (go_at_call 34; refine (room_any _ _).mono ?_; rintro e w1 ⟨rfl, rfl⟩) | (go_at_call 36; refine (of_any _ _).mono ?_; rintro e w1 ⟨rfl, rfl⟩) | (go_at_call 37; refine (pages_any _ _).mono ?_; rintro e w1 ⟨rfl, rfl⟩) | (go_at_call 38; refine (rof_any _ _).mono ?_; rintro e w1 ⟨rfl, rfl⟩) | (go_at_call 39; refine (rpages_any _ _).mono ?_; rintro e w1 ⟨rfl, rfl⟩) | (go_at_call 40; refine (base_any _ _ _ _).mono ?_; rintro e w1 ⟨rfl, rfl⟩) | (go_at_call 41; refine (slot_any _ _ _).mono ?_; rintro e w1 ⟨rfl, hb1⟩) | (go_at_call 35; refine (awake5_any _).mono ?_; rintro e w2 ⟨rfl, hb2⟩))
    go_ret
    exact ⟨rfl, by (repeat' (first | exact Below.refl _ _ | assumption | refine b_alloc ?_ _ | refine b_over ?_ _ | refine b_drew ?_ | refine b_call ?_ (by assumption)))⟩
theorem classLeast_any (n : Int) (w : World) : Calls Try.prog 12 #[.int .i64 n] w fun e w' => e = .returned (.bool true) ∧ Below w.heap.size w w' := by
  rcases class_all n with ⟨h, g1, g2, g3, g4, g5⟩ | ⟨c, hc, h, h', hr, g1, g2, g3, g4, g5, hl⟩ | ⟨h, h', g1, g2, g3⟩ | ⟨h, g1, g2, g3, g4, g5⟩
  · go_enter Try.func12, Try.ntmps12
    go_wp2_with (first | (go_at_call 30; refine (rsize_any _ _).mono ?_; rintro e w1 ⟨rfl, rfl⟩) | (go_at_call 31; refine (size_any _ _).mono ?_; rintro e w1 ⟨rfl, rfl⟩) | (go_at_call 33; refine (rslots_any _ _).mono ?_; rintro e w1 ⟨rfl, rfl⟩) | (go_at_call 32; refine (slots_any _ _).mono ?_; rintro e w1 ⟨rfl, rfl⟩) | (go_at_call 34; refine (room_any _ _).mono ?_; rintro e w1 ⟨rfl, rfl⟩) | (go_at_call 36; refine (of_any _ _).mono ?_; rintro e w1 ⟨rfl, rfl⟩) | (go_at_call 37; refine (pages_any _ _).mono ?_; rintro e w1 ⟨rfl, rfl⟩) | (go_at_call 38; refine (rof_any _ _).mono ?_; rintro e w1 ⟨rfl, rfl⟩) | (go_at_call 39; refine (rpages_any _ _).mono ?_; rintro e w1 ⟨rfl, rfl⟩) | (go_at_call 40; refine (base_any _ _ _ _).mono ?_; rintro e w1 ⟨rfl, rfl⟩) | (go_at_call 41; refine (slot_any _ _ _).mono ?_; rintro e w1 ⟨rfl, hb1⟩) | (go_at_call 35; refine (awake5_any _).mono ?_; rintro e w2 ⟨rfl, hb2⟩))
    go_ret
    exact ⟨rfl, by (repeat' (first | exact Below.refl _ _ | assumption | refine b_alloc ?_ _ | refine b_over ?_ _ | refine b_drew ?_ | refine b_call ?_ (by assumption)))⟩
  · by_cases c0 : 0 < c
    · have hl := hl c0
      have c3 : c ≤ 3 := by omega
      clear hc
      go_enter Try.func12, Try.ntmps12
      go_wp2_with (first | (go_at_call 30; refine (rsize_any _ _).mono ?_; rintro e w1 ⟨rfl, rfl⟩) | (go_at_call 31; refine (size_any _ _).mono ?_; rintro e w1 ⟨rfl, rfl⟩) | (go_at_call 33; refine (rslots_any _ _).mono ?_; rintro e w1 ⟨rfl, rfl⟩) | (go_at_call 32; refine (slots_any _ _).mono ?_; rintro e w1 ⟨rfl, rfl⟩) | (go_at_call 34; refine (room_any _ _).mono ?_; rintro e w1 ⟨rfl, rfl⟩) | (go_at_call 36; refine (of_any _ _).mono ?_; rintro e w1 ⟨rfl, rfl⟩) | (go_at_call 37; refine (pages_any _ _).mono ?_; rintro e w1 ⟨rfl, rfl⟩) | (go_at_call 38; refine (rof_any _ _).mono ?_; rintro e w1 ⟨rfl, rfl⟩) | (go_at_call 39; refine (rpages_any _ _).mono ?_; rintro e w1 ⟨rfl, rfl⟩) | (go_at_call 40; refine (base_any _ _ _ _).mono ?_; rintro e w1 ⟨rfl, rfl⟩) | (go_at_call 41; refine (slot_any _ _ _).mono ?_; rintro e w1 ⟨rfl, hb1⟩) | (go_at_call 35; refine (awake5_any _).mono ?_; rintro e w2 ⟨rfl, hb2⟩))
      go_ret
      exact ⟨rfl, by (repeat' (first | exact Below.refl _ _ | assumption | refine b_alloc ?_ _ | refine b_over ?_ _ | refine b_drew ?_ | refine b_call ?_ (by assumption)))⟩
    · clear hl hc
      go_enter Try.func12, Try.ntmps12
      go_wp2_with (first | (go_at_call 30; refine (rsize_any _ _).mono ?_; rintro e w1 ⟨rfl, rfl⟩) | (go_at_call 31; refine (size_any _ _).mono ?_; rintro e w1 ⟨rfl, rfl⟩) | (go_at_call 33; refine (rslots_any _ _).mono ?_; rintro e w1 ⟨rfl, rfl⟩) | (go_at_call 32; refine (slots_any _ _).mono ?_; rintro e w1 ⟨rfl, rfl⟩) | (go_at_call 34; refine (room_any _ _).mono ?_; rintro e w1 ⟨rfl, rfl⟩) | (go_at_call 36; refine (of_any _ _).mono ?_; rintro e w1 ⟨rfl, rfl⟩) | (go_at_call 37; refine (pages_any _ _).mono ?_; rintro e w1 ⟨rfl, rfl⟩) | (go_at_call 38; refine (rof_any _ _).mono ?_; rintro e w1 ⟨rfl, rfl⟩) | (go_at_call 39; refine (rpages_any _ _).mono ?_; rintro e w1 ⟨rfl, rfl⟩) | (go_at_call 40; refine (base_any _ _ _ _).mono ?_; rintro e w1 ⟨rfl, rfl⟩) | (go_at_call 41; refine (slot_any _ _ _).mono ?_; rintro e w1 ⟨rfl, hb1⟩) | (go_at_call 35; refine (awake5_any _).mono ?_; rintro e w2 ⟨rfl, hb2⟩))
      go_ret
      exact ⟨rfl, by (repeat' (first | exact Below.refl _ _ | assumption | refine b_alloc ?_ _ | refine b_over ?_ _ | refine b_drew ?_ | refine b_call ?_ (by assumption)))⟩
  · obtain ⟨g4, g5, g6, g7, g8⟩ := great_bd n h h'
    go_enter Try.func12, Try.ntmps12
    go_wp2_with (first | (go_at_call 30; refine (rsize_any _ _).mono ?_; rintro e w1 ⟨rfl, rfl⟩) | (go_at_call 31; refine (size_any _ _).mono ?_; rintro e w1 ⟨rfl, rfl⟩) | (go_at_call 33; refine (rslots_any _ _).mono ?_; rintro e w1 ⟨rfl, rfl⟩) | (go_at_call 32; refine (slots_any _ _).mono ?_; rintro e w1 ⟨rfl, rfl⟩) | (go_at_call 34; refine (room_any _ _).mono ?_; rintro e w1 ⟨rfl, rfl⟩) | (go_at_call 36; refine (of_any _ _).mono ?_; rintro e w1 ⟨rfl, rfl⟩) | (go_at_call 37; refine (pages_any _ _).mono ?_; rintro e w1 ⟨rfl, rfl⟩) | (go_at_call 38; refine (rof_any _ _).mono ?_; rintro e w1 ⟨rfl, rfl⟩) | (go_at_call 39; refine (rpages_any _ _).mono ?_; rintro e w1 ⟨rfl, rfl⟩) | (go_at_call 40; refine (base_any _ _ _ _).mono ?_; rintro e w1 ⟨rfl, rfl⟩) | (go_at_call 41; refine (slot_any _ _ _).mono ?_; rintro e w1 ⟨rfl, hb1⟩) | (go_at_call 35; refine (awake5_any _).mono ?_; rintro e w2 ⟨rfl, hb2⟩))
    go_ret
    exact ⟨rfl, by (repeat' (first | exact Below.refl _ _ | assumption | refine b_alloc ?_ _ | refine b_over ?_ _ | refine b_drew ?_ | refine b_call ?_ (by assumption)))⟩
  · go_enter Try.func12, Try.ntmps12
    go_wp2_with (first | (go_at_call 30; refine (rsize_any _ _).mono ?_; rintro e w1 ⟨rfl, rfl⟩) | (go_at_call 31; refine (size_any _ _).mono ?_; rintro e w1 ⟨rfl, rfl⟩) | (go_at_call 33; refine (rslots_any _ _).mono ?_; rintro e w1 ⟨rfl, rfl⟩) | (go_at_call 32; refine (slots_any _ _).mono ?_; rintro e w1 ⟨rfl, rfl⟩) | (go_at_call 34; refine (room_any _ _).mono ?_; rintro e w1 ⟨rfl, rfl⟩) | (go_at_call 36; refine (of_any _ _).mono ?_; rintro e w1 ⟨rfl, rfl⟩) | (go_at_call 37; refine (pages_any _ _).mono ?_; rintro e w1 ⟨rfl, rfl⟩) | (go_at_call 38; refine (rof_any _ _).mono ?_; rintro e w1 ⟨rfl, rfl⟩) | (go_at_call 39; refine (rpages_any _ _).mono ?_; rintro e w1 ⟨rfl, rfl⟩) | (go_at_call 40; refine (base_any _ _ _ _).mono ?_; rintro e w1 ⟨rfl, rfl⟩) | (go_at_call 41; refine (slot_any _ _ _).mono ?_; rintro e w1 ⟨rfl, hb1⟩) | (go_at_call 35; refine (awake5_any _).mono ?_; rintro e w2 ⟨rfl, hb2⟩))
    go_ret
    exact ⟨rfl, by (repeat' (first | exact Below.refl _ _ | assumption | refine b_alloc ?_ _ | refine b_over ?_ _ | refine b_drew ?_ | refine b_call ?_ (by assumption)))⟩
theorem base_slot (p c k r : Int) (h : 0 ≤ p ∧ p < 256 ∧ 0 ≤ k ∧ k < slotsI c) (hr : 0 ≤ r) (hr' : r < sizeI c) :
    slotpI (baseI p c k + r) c = p ∧ slotkI (baseI p c k + r) c = k ∧ mayB c = true ∧ baseI p c k = 256 * p + sizeI c * k ∧ 0 ≤ sizeI c * k ∧ sizeI c * k + sizeI c ≤ 256 ∧ (256 * p + sizeI c * k) % 16 = 0 := by
  have b := baseI_in p c k h
  have m := size_mul c k h.2.2.1 h.2.2.2
  have hm : mayB c = true := by
    rcases class_cases c with rfl | rfl | rfl | rfl | ⟨_, _, _, e, _⟩
    · rfl
    · rfl
    · rfl
    · rfl
    · omega
  have hi : inI (baseI p c k + r) c = true := by rw [inI_iff, b]; exact ⟨hm, by omega, by omega⟩
  have e1 : slotpI (baseI p c k + r) c = (baseI p c k + r) / 256 := by unfold slotpI; rw [if_pos hi]
  have e2 : slotkI (baseI p c k + r) c = (baseI p c k + r) % 256 / sizeI c := by unfold slotkI; rw [if_pos hi]
  rw [e1, e2, b]
  refine ⟨by omega, ?_, hm, rfl, m.1, m.2, ?_⟩
  · have e3 : (256 * p + sizeI c * k + r) % 256 = sizeI c * k + r := by omega
    rw [e3]
    rcases class_cases c with rfl | rfl | rfl | rfl | ⟨_, _, _, e, _⟩
    · have e : sizeI 0 = 16 := rfl
      rw [e] at hr' ⊢; omega
    · have e : sizeI 1 = 32 := rfl
      rw [e] at hr' ⊢; omega
    · have e : sizeI 2 = 64 := rfl
      rw [e] at hr' ⊢; omega
    · have e : sizeI 3 = 128 := rfl
      rw [e] at hr' ⊢; omega
    · omega
  · rcases class_cases c with rfl | rfl | rfl | rfl | ⟨_, _, _, e, _⟩
    · have e : sizeI 0 = 16 := rfl
      rw [e]; omega
    · have e : sizeI 1 = 32 := rfl
      rw [e]; omega
    · have e : sizeI 2 = 64 := rfl
      rw [e]; omega
    · have e : sizeI 3 = 128 := rfl
      rw [e]; omega
    · omega
theorem classBase_any (p c k f : Int) (hf : 0 ≤ f) (hf' : f ≤ 255) (w : World) : Calls Try.prog 10 #[.int .i64 p, .int .i64 c, .int .i64 k, .int .u8 f] w fun e w' => e = .returned (.bool true) ∧ Below w.heap.size w w' := by
  by_cases h : 0 ≤ p ∧ p < 256 ∧ 0 ≤ k ∧ k < slotsI c
  · have S := size_mul c k h.2.2.1 h.2.2.2
    have s16 : 1 ≤ sizeI c := by
      rcases class_cases c with rfl | rfl | rfl | rfl | ⟨_, _, _, e, _⟩
      · decide
      · decide
      · decide
      · decide
      · omega
    have sne : sizeI c ≠ 0 := by omega
    have r0 : 0 ≤ f % sizeI c := Int.emod_nonneg _ sne
    have r1 : f % sizeI c < sizeI c := Int.emod_lt_of_pos _ (by omega)
    obtain ⟨g1, g2, g3, g4, g5, g6, g7⟩ := base_slot p c k (f % sizeI c) h r0 r1
    obtain ⟨h1, h2, h3, h4⟩ := h
    have t1 : (baseI p c k == 256 * p + sizeI c * k) = true := by rw [g4]; simp
    have t2 : (baseI p c k % 16 == 0) = true := by rw [g4, g7]; rfl
    have b1 : 0 ≤ baseI p c k := by omega
    have b2 : baseI p c k + sizeI c ≤ 256 * p + 256 := by omega
    have b3 : sizeI c ≤ 128 := (sizeI_bd c).2
    have b4 : baseI p c k ≤ 65536 := by omega
    have q1 : ¬ 255 < p := by omega
    have q2 : ¬ slotsI c ≤ k := by omega
    clear g4 g7 S
    go_enter Try.func10, Try.ntmps10
    go_wp2_with (first | (go_at_call 30; refine (rsize_any _ _).mono ?_; rintro e w1 ⟨rfl, rfl⟩) | (go_at_call 31; refine (size_any _ _).mono ?_; rintro e w1 ⟨rfl, rfl⟩) | (go_at_call 33; refine (rslots_any _ _).mono ?_; rintro e w1 ⟨rfl, rfl⟩) | (go_at_call 32; refine (slots_any _ _).mono ?_; rintro e w1 ⟨rfl, rfl⟩) | (go_at_call 34; refine (room_any _ _).mono ?_; rintro e w1 ⟨rfl, rfl⟩) | (go_at_call 36; refine (of_any _ _).mono ?_; rintro e w1 ⟨rfl, rfl⟩) | (go_at_call 37; refine (pages_any _ _).mono ?_; rintro e w1 ⟨rfl, rfl⟩) | (go_at_call 38; refine (rof_any _ _).mono ?_; rintro e w1 ⟨rfl, rfl⟩) | (go_at_call 39; refine (rpages_any _ _).mono ?_; rintro e w1 ⟨rfl, rfl⟩) | (go_at_call 40; refine (base_any _ _ _ _).mono ?_; rintro e w1 ⟨rfl, rfl⟩) | (go_at_call 41; refine (slot_any _ _ _).mono ?_; rintro e w1 ⟨rfl, hb1⟩) | (go_at_call 35; refine (awake5_any _).mono ?_; rintro e w2 ⟨rfl, hb2⟩))
    go_ret
    exact ⟨rfl, by (repeat' (first | exact Below.refl _ _ | assumption | refine b_alloc ?_ _ | refine b_over ?_ _ | refine b_drew ?_ | refine b_call ?_ (by assumption)))⟩
  · have e := baseI_out p c k h
    rcases (show p < 0 ∨ (0 ≤ p ∧ 255 < p) ∨ (0 ≤ p ∧ p ≤ 255 ∧ k < 0) ∨ (0 ≤ p ∧ p ≤ 255 ∧ 0 ≤ k ∧ slotsI c ≤ k) by omega) with h | ⟨h, h'⟩ | ⟨h, h', h2⟩ | ⟨h, h', h2, h3⟩
    all_goals
      go_enter Try.func10, Try.ntmps10
      go_wp2_with (first | (go_at_call 30; refine (rsize_any _ _).mono ?_; rintro e w1 ⟨rfl, rfl⟩) | (go_at_call 31; refine (size_any _ _).mono ?_; rintro e w1 ⟨rfl, rfl⟩) | (go_at_call 33; refine (rslots_any _ _).mono ?_; rintro e w1 ⟨rfl, rfl⟩) | (go_at_call 32; refine (slots_any _ _).mono ?_; rintro e w1 ⟨rfl, rfl⟩) | (go_at_call 34; refine (room_any _ _).mono ?_; rintro e w1 ⟨rfl, rfl⟩) | (go_at_call 36; refine (of_any _ _).mono ?_; rintro e w1 ⟨rfl, rfl⟩) | (go_at_call 37; refine (pages_any _ _).mono ?_; rintro e w1 ⟨rfl, rfl⟩) | (go_at_call 38; refine (rof_any _ _).mono ?_; rintro e w1 ⟨rfl, rfl⟩) | (go_at_call 39; refine (rpages_any _ _).mono ?_; rintro e w1 ⟨rfl, rfl⟩) | (go_at_call 40; refine (base_any _ _ _ _).mono ?_; rintro e w1 ⟨rfl, rfl⟩) | (go_at_call 41; refine (slot_any _ _ _).mono ?_; rintro e w1 ⟨rfl, hb1⟩) | (go_at_call 35; refine (awake5_any _).mono ?_; rintro e w2 ⟨rfl, hb2⟩))
      go_ret
      exact ⟨rfl, by (repeat' (first | exact Below.refl _ _ | assumption | refine b_alloc ?_ _ | refine b_over ?_ _ | refine b_drew ?_ | refine b_call ?_ (by assumption)))⟩
theorem slot_base (a c : Int) (h : 0 ≤ a) (h' : a < 65536) (hm : mayB c = true) :
    0 ≤ baseI (slotpI a c) c (slotkI a c) ∧ baseI (slotpI a c) c (slotkI a c) ≤ a ∧ a - baseI (slotpI a c) c (slotkI a c) < sizeI c ∧ 0 < sizeI c := by
  have hi : inI a c = true := by rw [inI_iff]; exact ⟨hm, h, h'⟩
  have e1 : slotpI a c = a / 256 := by unfold slotpI; rw [if_pos hi]
  have e2 : slotkI a c = a % 256 / sizeI c := by unfold slotkI; rw [if_pos hi]
  rw [e1, e2]
  rcases class_cases c with rfl | rfl | rfl | rfl | ⟨e, _⟩
  · have s : sizeI 0 = 16 := rfl
    have l : slotsI 0 = 16 := rfl
    rw [baseI_in _ _ _ (by rw [s, l]; omega), s]; omega
  · have s : sizeI 1 = 32 := rfl
    have l : slotsI 1 = 8 := rfl
    rw [baseI_in _ _ _ (by rw [s, l]; omega), s]; omega
  · have s : sizeI 2 = 64 := rfl
    have l : slotsI 2 = 4 := rfl
    rw [baseI_in _ _ _ (by rw [s, l]; omega), s]; omega
  · have s : sizeI 3 = 128 := rfl
    have l : slotsI 3 = 2 := rfl
    rw [baseI_in _ _ _ (by rw [s, l]; omega), s]; omega
  · rw [hm] at e; cases e
theorem slot_none (a c : Int) (h : ¬ (mayB c = true ∧ 0 ≤ a ∧ a < 65536)) : slotpI a c = -1 ∧ slotkI a c = -1 := by
  have hi : ¬ inI a c = true := by rw [inI_iff]; exact h
  unfold slotpI slotkI; rw [if_neg hi, if_neg hi]; exact ⟨rfl, rfl⟩
theorem classSlot_any (a c : Int) (ha : a ≤ 9223372036854775807) (w : World) : Calls Try.prog 11 #[.int .i64 a, .int .i64 c] w fun e w' => e = .returned (.bool true) ∧ Below w.heap.size w w' := by
  by_cases h : mayB c = true ∧ 0 ≤ a ∧ a < 65536
  · obtain ⟨g1, g2, g3, g4⟩ := slot_base a c h.2.1 h.2.2 h.1
    obtain ⟨h1, h2, h3⟩ := h
    have t1 : (sizeI c == 0) = false := beq_false_of_ne (by omega)
    have t2 : ¬ 65535 < a := by omega
    go_enter Try.func11, Try.ntmps11
    go_wp2_with (first | (go_at_call 30; refine (rsize_any _ _).mono ?_; rintro e w1 ⟨rfl, rfl⟩) | (go_at_call 31; refine (size_any _ _).mono ?_; rintro e w1 ⟨rfl, rfl⟩) | (go_at_call 33; refine (rslots_any _ _).mono ?_; rintro e w1 ⟨rfl, rfl⟩) | (go_at_call 32; refine (slots_any _ _).mono ?_; rintro e w1 ⟨rfl, rfl⟩) | (go_at_call 34; refine (room_any _ _).mono ?_; rintro e w1 ⟨rfl, rfl⟩) | (go_at_call 36; refine (of_any _ _).mono ?_; rintro e w1 ⟨rfl, rfl⟩) | (go_at_call 37; refine (pages_any _ _).mono ?_; rintro e w1 ⟨rfl, rfl⟩) | (go_at_call 38; refine (rof_any _ _).mono ?_; rintro e w1 ⟨rfl, rfl⟩) | (go_at_call 39; refine (rpages_any _ _).mono ?_; rintro e w1 ⟨rfl, rfl⟩) | (go_at_call 40; refine (base_any _ _ _ _).mono ?_; rintro e w1 ⟨rfl, rfl⟩) | (go_at_call 41; refine (slot_any _ _ _).mono ?_; rintro e w1 ⟨rfl, hb1⟩) | (go_at_call 35; refine (awake5_any _).mono ?_; rintro e w2 ⟨rfl, hb2⟩))
    go_ret
    exact ⟨rfl, by (repeat' (first | exact Below.refl _ _ | assumption | refine b_alloc ?_ _ | refine b_over ?_ _ | refine b_drew ?_ | refine b_call ?_ (by assumption)))⟩
  · have e := slot_none a c h
    have e1 := e.1
    have e2 := e.2
    clear e
    rcases (show (0 ≤ a ∧ a ≤ 65535 ∧ mayB c = false) ∨ a < 0 ∨ (0 ≤ a ∧ 65535 < a) from (by
      cases hm : mayB c with
      | false => by_cases x : 0 ≤ a ∧ a ≤ 65535
                 · exact Or.inl ⟨x.1, x.2, rfl⟩
                 · omega
      | true => right; have h' : ¬ (0 ≤ a ∧ a < 65536) := fun x => h ⟨hm, x⟩
                omega)) with ⟨h, h', h2⟩ | h | ⟨h, h'⟩
    · have t1 : (sizeI c == 0) = true := by
        rcases class_cases c with rfl | rfl | rfl | rfl | ⟨_, _, x, _⟩
        · cases h2
        · cases h2
        · cases h2
        · cases h2
        · rw [x]; rfl
      go_enter Try.func11, Try.ntmps11
      go_wp2_with (first | (go_at_call 30; refine (rsize_any _ _).mono ?_; rintro e w1 ⟨rfl, rfl⟩) | (go_at_call 31; refine (size_any _ _).mono ?_; rintro e w1 ⟨rfl, rfl⟩) | (go_at_call 33; refine (rslots_any _ _).mono ?_; rintro e w1 ⟨rfl, rfl⟩) | (go_at_call 32; refine (slots_any _ _).mono ?_; rintro e w1 ⟨rfl, rfl⟩) | (go_at_call 34; refine (room_any _ _).mono ?_; rintro e w1 ⟨rfl, rfl⟩) | (go_at_call 36; refine (of_any _ _).mono ?_; rintro e w1 ⟨rfl, rfl⟩) | (go_at_call 37; refine (pages_any _ _).mono ?_; rintro e w1 ⟨rfl, rfl⟩) | (go_at_call 38; refine (rof_any _ _).mono ?_; rintro e w1 ⟨rfl, rfl⟩) | (go_at_call 39; refine (rpages_any _ _).mono ?_; rintro e w1 ⟨rfl, rfl⟩) | (go_at_call 40; refine (base_any _ _ _ _).mono ?_; rintro e w1 ⟨rfl, rfl⟩) | (go_at_call 41; refine (slot_any _ _ _).mono ?_; rintro e w1 ⟨rfl, hb1⟩) | (go_at_call 35; refine (awake5_any _).mono ?_; rintro e w2 ⟨rfl, hb2⟩))
      go_ret
      exact ⟨rfl, by (repeat' (first | exact Below.refl _ _ | assumption | refine b_alloc ?_ _ | refine b_over ?_ _ | refine b_drew ?_ | refine b_call ?_ (by assumption)))⟩
    all_goals
      go_enter Try.func11, Try.ntmps11
      go_wp2_with (first | (go_at_call 30; refine (rsize_any _ _).mono ?_; rintro e w1 ⟨rfl, rfl⟩) | (go_at_call 31; refine (size_any _ _).mono ?_; rintro e w1 ⟨rfl, rfl⟩) | (go_at_call 33; refine (rslots_any _ _).mono ?_; rintro e w1 ⟨rfl, rfl⟩) | (go_at_call 32; refine (slots_any _ _).mono ?_; rintro e w1 ⟨rfl, rfl⟩) | (go_at_call 34; refine (room_any _ _).mono ?_; rintro e w1 ⟨rfl, rfl⟩) | (go_at_call 36; refine (of_any _ _).mono ?_; rintro e w1 ⟨rfl, rfl⟩) | (go_at_call 37; refine (pages_any _ _).mono ?_; rintro e w1 ⟨rfl, rfl⟩) | (go_at_call 38; refine (rof_any _ _).mono ?_; rintro e w1 ⟨rfl, rfl⟩) | (go_at_call 39; refine (rpages_any _ _).mono ?_; rintro e w1 ⟨rfl, rfl⟩) | (go_at_call 40; refine (base_any _ _ _ _).mono ?_; rintro e w1 ⟨rfl, rfl⟩) | (go_at_call 41; refine (slot_any _ _ _).mono ?_; rintro e w1 ⟨rfl, hb1⟩) | (go_at_call 35; refine (awake5_any _).mono ?_; rintro e w2 ⟨rfl, hb2⟩))
      go_ret
      exact ⟨rfl, by (repeat' (first | exact Below.refl _ _ | assumption | refine b_alloc ?_ _ | refine b_over ?_ _ | refine b_drew ?_ | refine b_call ?_ (by assumption)))⟩
end Go.Proofs.Ytakcodbbecdfkaa
