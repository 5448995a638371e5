/- LinkGet's walk: a word is a link just if it is what Put makes of where it leads. Conditions: numbers of their kinds. -/
import Derived.Test.YtakcodbbecdfkaaLinkLaw
namespace Go.Proofs.Ytakcodbbecdfkaa
open Go.RowKit
set_option linter.unusedVariables false
set_option linter.unusedSimpArgs false
attribute [local go_sem] over_cell over_frozen
theorem get_ok (k a u : Int) (h : 0 ≤ u) (h' : u < 18446744073709551616) (hi : isI k a u = true) : 0 ≤ a ∧ -1 ≤ getI k a u ∧ getI k a u ≤ 2147483647 ∧ putI k a (getI k a u) = u := by
  rw [getI_yes _ _ _ hi]; exact put_get k a u h h' hi
theorem get_bad (k a u : Int) (ha : 0 ≤ a) (hi : isI k a u = false) : (putI k a 0 != u) = true := by
  rw [bne_iff_ne]; intro h
  have := (get_put k a 0 ha (by omega) (by omega)).1
  rw [h, hi] at this; cases this
theorem linkGet_raw (k a n t : Int) (h0 : 0 ≤ k) (h1 : k < 18446744073709551616) (ha : -9223372036854775808 ≤ a) (hb : a ≤ 9223372036854775807) (ht : 0 ≤ t) (ht' : t < 18446744073709551616) (w : World) :
    Calls Try.prog 4 #[.int .u64 k, .int .i64 a, .int .i64 n, .int .u64 t, .bool true] w fun e w' => e = .returned (.bool true) ∧ Below w.heap.size w w' := by
  have e2 := i64_and31 n
  have N0 : 0 ≤ n % 2147483648 := by omega
  have N1 : n % 2147483648 ≤ 2147483647 := by omega
  generalize n % 2147483648 = m at *
  have hX : 0 ≤ bits .xor .u64 (putI k a (m - 1)) t ∧ bits .xor .u64 (putI k a (m - 1)) t < 18446744073709551616 := xor_bd _ _ (putI_bd _ _ _).1 (putI_bd _ _ _).2 ht ht'
  obtain ⟨u, hu⟩ : ∃ u, u = t := ⟨_, rfl⟩
  subst hu
  have hX' : 0 ≤ u ∧ u < 18446744073709551616 := ⟨ht, ht'⟩
  cases hi : isI k a u with
  | false =>
    have g0 := getI_no _ _ _ hi
    by_cases c : a < 0
    · go_enter Try.func4, Try.ntmps4
      go_wp2_with (first | (go_at_call 15; refine (put_any k a (m - 1) h0 h1 ha hb (by omega) (by omega) _).mono ?_; rintro e w1 ⟨rfl, hb1⟩; obtain ⟨hc1, hf1⟩ := bcell hb1; have hz1 := hb1.size; simp only [World.size_alloc] at hz1) | (go_at_call 17; refine (get_any k a _ h0 h1 ha hb hX'.1 hX'.2 _).mono ?_; rintro e w2 ⟨rfl, hb2⟩; obtain ⟨hc2, hf2⟩ := bcell hb2; have hz2 := hb2.size) | (go_at_call 16; refine (awake6_any _).mono ?_; rintro e w3 ⟨rfl, hb3⟩))
      all_goals (go_ret; exact ⟨rfl, by (repeat' (first | exact Below.refl _ _ | assumption | refine b_alloc ?_ _ | refine b_over ?_ _ | refine b_drew ?_ | refine b_call ?_ (by assumption)))⟩)
    · have c1 : 0 ≤ a := by omega
      have T := get_bad k a u c1 hi

      clear c
      go_enter Try.func4, Try.ntmps4
      go_wp2_with fail
      refine (put_any k a (m - 1) h0 h1 ha hb (by omega) (by omega) _).mono ?_; rintro e w1 ⟨rfl, hb1⟩; obtain ⟨hc1, hf1⟩ := bcell hb1; have hz1 := hb1.size; simp only [World.size_alloc] at hz1; have hy1 : w.heap.size < w1.heap.size := by omega
      go_wp2_with fail
      refine (get_any k a _ h0 h1 ha hb hX'.1 hX'.2 _).mono ?_; rintro e w2 ⟨rfl, hb2⟩; obtain ⟨hc2, hf2⟩ := bcell hb2; have hz2 := hb2.size; have hy2 : w.heap.size < w2.heap.size := by omega
      go_wp2_with fail
      refine (put_any k a 0 h0 h1 ha hb (by omega) (by omega) _).mono ?_; rintro e w3 ⟨rfl, hb3⟩
      go_wp2_with fail
      refine (awake6_any _).mono ?_; rintro e w4 ⟨rfl, hb4⟩
      go_wp2
      go_ret
      exact ⟨rfl, by (repeat' (first | exact Below.refl _ _ | assumption | refine b_alloc ?_ _ | refine b_over ?_ _ | refine b_drew ?_ | refine b_call ?_ (by assumption)))⟩
  | true =>
    have g0 := get_ok k a u hX'.1 hX'.2 hi
    have T : (putI k a (getI k a u) == u) = true := by rw [g0.2.2.2]; simp
    have g1 := g0.1
    have g2 := g0.2.1
    have g3 := g0.2.2.1
    clear g0
    go_enter Try.func4, Try.ntmps4
    go_wp2_with fail
    refine (put_any k a (m - 1) h0 h1 ha hb (by omega) (by omega) _).mono ?_; rintro e w1 ⟨rfl, hb1⟩; obtain ⟨hc1, hf1⟩ := bcell hb1; have hz1 := hb1.size; simp only [World.size_alloc] at hz1; have hy1 : w.heap.size < w1.heap.size := by omega
    go_wp2_with fail
    refine (get_any k a _ h0 h1 ha hb hX'.1 hX'.2 _).mono ?_; rintro e w2 ⟨rfl, hb2⟩
    go_wp2_with fail
    refine (rput_any k a _ h0 h1 ha hb (by omega) (by omega) _).mono ?_; rintro e w3 ⟨rfl, hb3⟩
    go_wp2_with fail
    refine (awake6_any _).mono ?_; rintro e w4 ⟨rfl, hb4⟩
    go_wp2
    go_ret
    exact ⟨rfl, by (repeat' (first | exact Below.refl _ _ | assumption | refine b_alloc ?_ _ | refine b_over ?_ _ | refine b_drew ?_ | refine b_call ?_ (by assumption)))⟩
theorem linkGet_turn (k a n t : Int) (h0 : 0 ≤ k) (h1 : k < 18446744073709551616) (ha : -9223372036854775808 ≤ a) (hb : a ≤ 9223372036854775807) (ht : 0 ≤ t) (ht' : t < 18446744073709551616) (w : World) :
    Calls Try.prog 4 #[.int .u64 k, .int .i64 a, .int .i64 n, .int .u64 t, .bool false] w fun e w' => e = .returned (.bool true) ∧ Below w.heap.size w w' := by
  have e2 := i64_and31 n
  have N0 : 0 ≤ n % 2147483648 := by omega
  have N1 : n % 2147483648 ≤ 2147483647 := by omega
  generalize n % 2147483648 = m at *
  have hX : 0 ≤ bits .xor .u64 (putI k a (m - 1)) t ∧ bits .xor .u64 (putI k a (m - 1)) t < 18446744073709551616 := xor_bd _ _ (putI_bd _ _ _).1 (putI_bd _ _ _).2 ht ht'
  obtain ⟨u, hu⟩ : ∃ u, bits .xor .u64 (putI k a (m - 1)) t = u := ⟨_, rfl⟩
  rw [hu] at hX
  have hX' := hX
  cases hi : isI k a u with
  | false =>
    have g0 := getI_no _ _ _ hi
    by_cases c : a < 0
    · go_enter Try.func4, Try.ntmps4
      go_wp2_with (first | (go_at_call 15; refine (put_any k a (m - 1) h0 h1 ha hb (by omega) (by omega) _).mono ?_; rintro e w1 ⟨rfl, hb1⟩; obtain ⟨hc1, hf1⟩ := bcell hb1; have hz1 := hb1.size; simp only [World.size_alloc] at hz1) | (go_at_call 17; refine (get_any k a _ h0 h1 ha hb hX'.1 hX'.2 _).mono ?_; rintro e w2 ⟨rfl, hb2⟩; obtain ⟨hc2, hf2⟩ := bcell hb2; have hz2 := hb2.size) | (go_at_call 16; refine (awake6_any _).mono ?_; rintro e w3 ⟨rfl, hb3⟩))
      all_goals (go_ret; exact ⟨rfl, by (repeat' (first | exact Below.refl _ _ | assumption | refine b_alloc ?_ _ | refine b_over ?_ _ | refine b_drew ?_ | refine b_call ?_ (by assumption)))⟩)
    · have c1 : 0 ≤ a := by omega
      have T := get_bad k a u c1 hi
      have T2 : (t != 0) = true := by
        rw [bne_iff_ne]; intro h; subst h
        have := (get_put k a (m - 1) c1 (by omega) (by omega)).1
        rw [u64_xor _ _ (putI_bd _ _ _).1 (putI_bd _ _ _).2 (by omega) (by omega)] at hu
        simp only [Int.toNat_zero, Nat.xor_zero] at hu
        rw [Int.toNat_of_nonneg (putI_bd _ _ _).1] at hu
        rw [hu, hi] at this; cases this

      clear c
      go_enter Try.func4, Try.ntmps4
      go_wp2_with fail
      refine (put_any k a (m - 1) h0 h1 ha hb (by omega) (by omega) _).mono ?_; rintro e w1 ⟨rfl, hb1⟩; obtain ⟨hc1, hf1⟩ := bcell hb1; have hz1 := hb1.size; simp only [World.size_alloc] at hz1; have hy1 : w.heap.size < w1.heap.size := by omega
      go_wp2_with fail
      refine (get_any k a _ h0 h1 ha hb hX'.1 hX'.2 _).mono ?_; rintro e w2 ⟨rfl, hb2⟩; obtain ⟨hc2, hf2⟩ := bcell hb2; have hz2 := hb2.size; have hy2 : w.heap.size < w2.heap.size := by omega
      go_wp2_with fail
      refine (put_any k a 0 h0 h1 ha hb (by omega) (by omega) _).mono ?_; rintro e w3 ⟨rfl, hb3⟩
      go_wp2_with fail
      refine (awake6_any _).mono ?_; rintro e w4 ⟨rfl, hb4⟩
      go_wp2
      go_ret
      exact ⟨rfl, by (repeat' (first | exact Below.refl _ _ | assumption | refine b_alloc ?_ _ | refine b_over ?_ _ | refine b_drew ?_ | refine b_call ?_ (by assumption)))⟩
  | true =>
    have g0 := get_ok k a u hX'.1 hX'.2 hi
    have T : (putI k a (getI k a u) == u) = true := by rw [g0.2.2.2]; simp
    have g1 := g0.1
    have g2 := g0.2.1
    have g3 := g0.2.2.1
    clear g0
    go_enter Try.func4, Try.ntmps4
    go_wp2_with fail
    refine (put_any k a (m - 1) h0 h1 ha hb (by omega) (by omega) _).mono ?_; rintro e w1 ⟨rfl, hb1⟩; obtain ⟨hc1, hf1⟩ := bcell hb1; have hz1 := hb1.size; simp only [World.size_alloc] at hz1; have hy1 : w.heap.size < w1.heap.size := by omega
    go_wp2_with fail
    refine (get_any k a _ h0 h1 ha hb hX'.1 hX'.2 _).mono ?_; rintro e w2 ⟨rfl, hb2⟩
    go_wp2_with fail
    refine (rput_any k a _ h0 h1 ha hb (by omega) (by omega) _).mono ?_; rintro e w3 ⟨rfl, hb3⟩
    go_wp2_with fail
    refine (awake6_any _).mono ?_; rintro e w4 ⟨rfl, hb4⟩
    go_wp2
    go_ret
    exact ⟨rfl, by (repeat' (first | exact Below.refl _ _ | assumption | refine b_alloc ?_ _ | refine b_over ?_ _ | refine b_drew ?_ | refine b_call ?_ (by assumption)))⟩
theorem linkGet_any (k a n t : Int) (r : Bool) (h0 : 0 ≤ k) (h1 : k < 18446744073709551616) (ha : -9223372036854775808 ≤ a) (hb : a ≤ 9223372036854775807) (ht : 0 ≤ t) (ht' : t < 18446744073709551616) (w : World) :
    Calls Try.prog 4 #[.int .u64 k, .int .i64 a, .int .i64 n, .int .u64 t, .bool r] w fun e w' => e = .returned (.bool true) ∧ Below w.heap.size w w' := by
  cases r
  · exact linkGet_turn k a n t h0 h1 ha hb ht ht' w
  · exact linkGet_raw k a n t h0 h1 ha hb ht ht' w
end Go.Proofs.Ytakcodbbecdfkaa
