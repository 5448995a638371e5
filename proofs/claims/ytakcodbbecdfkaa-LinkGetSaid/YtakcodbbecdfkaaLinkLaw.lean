/- The contracts of link's New and Canary, of the references of layer 6, and of chapter 6's example; then the four laws' walks. Conditions: numbers of their kinds. -/
import Derived.Test.YtakcodbbecdfkaaLink
namespace Go.Proofs.Ytakcodbbecdfkaa
open Go.RowKit
set_option linter.unusedVariables false
set_option linter.unusedSimpArgs false
attribute [local go_sem] over_cell over_frozen
def keyI (s : Int) : Int := mixI (IntKind.u64.wrap (s + 11400714819323198485))
theorem keyI_bd (s : Int) : 0 ≤ keyI s ∧ keyI s < 18446744073709551616 := mixI_bd _
theorem new_any (s : Int) (h0 : 0 ≤ s) (h1 : s < 18446744073709551616) (w : World) :
    Calls Try.prog 19 #[.int .u64 s] w fun e w' => e = .returned (.agg #[.int .u64 (keyI s)]) ∧ Below w.heap.size w w' := by
  go_enter Try.func19, Try.ntmps19
  go_wp2_with fail
  refine (mix_any _ (wr _).1 (wr _).2 _).mono ?_
  rintro e w' ⟨rfl, rfl⟩
  go_wp2
  refine bodyPost_ret (v := .agg #[.int .u64 _]) (by simp [results, Try.results19, go_sem]; rfl) rfl ⟨rfl, by go_grown⟩
def key0 : Int := mixI 11400714819323198485
theorem key0_bd : 0 ≤ key0 ∧ key0 < 18446744073709551616 := mixI_bd _
theorem key0_eq : key0 = 16294208416658607535 := by decide +kernel
theorem new0 (w : World) : Calls Try.prog 19 #[.int .u64 0] w fun e w' => e = .returned (.agg #[.int .u64 key0]) ∧ Below w.heap.size w w' :=
  (new_any 0 (by omega) (by omega) w).mono fun e w' ⟨he, hb⟩ => ⟨by rw [he]; rfl, hb⟩
theorem awake6_any (w : World) :
    Calls Try.prog 16 #[] w fun e w' => e = .returned (.bool true) ∧ Below w.heap.size w w' := by
  have gp := get_put key0 16 (-1) (by omega) (by omega) (by omega)
  have g1 : getI key0 16 (putI key0 16 (-1)) = -1 := by rw [getI_yes _ _ _ gp.1]; exact gp.2
  have G1 : (getI key0 16 (putI key0 16 (-1)) == -1) = true := by rw [g1]; rfl
  have G2 : isI key0 16 (putI key0 16 (-1)) = true := gp.1
  have G3 : (key0 == 16294208416658607535) = true := by rw [key0_eq]; rfl
  clear gp g1
  go_enter Try.func16, Try.ntmps16
  go_wp2_with fail
  refine (new0 _).mono ?_
  rintro e w1 ⟨rfl, hb1⟩
  go_wp2_with fail
  refine wp_region_over_lit (by kernel_rfl) (by kernel_rfl) ?_
  repeat (quiet_step ((first | (go_at_call 15; exact over_call (put_any _ _ _ key0_bd.1 key0_bd.2 (by omega) (by omega) (by omega) (by omega) _)) | (go_at_call 17; exact over_call (get_any _ _ _ key0_bd.1 key0_bd.2 (by omega) (by omega) (putI_bd _ _ _).1 (putI_bd _ _ _).2 _)))))
  refine wpQuiet_nil ?_
  rintro _ ⟨x, rfl⟩
  go_wp2
  go_ret
  exact ⟨rfl, by (repeat' (first | exact Below.refl _ _ | assumption | refine b_alloc ?_ _ | refine b_over ?_ _ | refine b_drew ?_ | refine b_call ?_ (by assumption)))⟩
theorem rkey_any (s : Int) (h0 : 0 ≤ s) (h1 : s < 18446744073709551616) (w : World) :
    Calls Try.prog 20 #[.int .u64 s] w fun e w' => e = .returned (.int .u64 (keyI s)) ∧ Below w.heap.size w w' := by
  go_enter Try.func20, Try.ntmps20
  go_wp2_with fail
  refine (rmix_any _ (wr _).1 (wr _).2 _).mono ?_
  rintro e w' ⟨rfl, rfl⟩
  go_wp2
  go_ret
  exact ⟨rfl, by (repeat' (first | exact Below.refl _ _ | assumption | refine b_alloc ?_ _ | refine b_over ?_ _ | refine b_drew ?_ | refine b_call ?_ (by assumption)))⟩
def canI (k a : Int) : Int := mixI (bits .xor .u64 k (IntKind.u64.wrap a))
theorem canI_bd (k a : Int) : 0 ≤ canI k a ∧ canI k a < 18446744073709551616 := mixI_bd _
theorem canx (k a : Int) (h0 : 0 ≤ k) (h1 : k < 18446744073709551616) : 0 ≤ bits .xor .u64 k (IntKind.u64.wrap a) ∧ bits .xor .u64 k (IntKind.u64.wrap a) < 18446744073709551616 := xor_bd _ _ h0 h1 (wr _).1 (wr _).2
theorem canary_any (k a : Int) (h0 : 0 ≤ k) (h1 : k < 18446744073709551616) (w : World) :
    Calls Try.prog 21 #[.agg #[.int .u64 k], .int .i64 a] w fun e w' => e = .returned (.int .u64 (canI k a)) ∧ Below w.heap.size w w' := by
  have hx := canx k a h0 h1
  go_enter Try.func21, Try.ntmps21
  go_wp2_with fail
  refine (mix_any _ hx.1 hx.2 _).mono ?_
  rintro e w' ⟨rfl, rfl⟩
  go_wp2
  go_ret
  exact ⟨rfl, by (repeat' (first | exact Below.refl _ _ | assumption | refine b_alloc ?_ _ | refine b_over ?_ _ | refine b_drew ?_ | refine b_call ?_ (by assumption)))⟩
theorem rput_any (k a n : Int) (h0 : 0 ≤ k) (h1 : k < 18446744073709551616) (ha : -9223372036854775808 ≤ a) (hb : a ≤ 9223372036854775807) (hn : -9223372036854775808 ≤ n) (hm : n ≤ 9223372036854775807) (w : World) :
    Calls Try.prog 18 #[.int .u64 k, .int .i64 a, .int .i64 n] w fun e w' => e = .returned (.int .u64 (putI k a n)) ∧ Below w.heap.size w w' := by
  by_cases c : a < 0 ∨ n < -1 ∨ 2147483647 < n
  · have H := Lib.hid (putI_out k a n c)
    rcases (show a < 0 ∨ (0 ≤ a ∧ n < -1) ∨ (0 ≤ a ∧ -1 ≤ n ∧ 2147483647 < n) by omega) with c | ⟨c, c2⟩ | ⟨c, c2, c3⟩
    all_goals
      go_enter Try.func18, Try.ntmps18
      go_wp2
      go_ret
      exact ⟨by rw [H.out]; rfl, by (repeat' (first | exact Below.refl _ _ | assumption | refine b_alloc ?_ _ | refine b_over ?_ _ | refine b_drew ?_ | refine b_call ?_ (by assumption)))⟩
  · have c1 : 0 ≤ a := by omega
    have c2 : -1 ≤ n := by omega
    have c3 : n ≤ 2147483647 := by omega
    have H := Lib.hid (putI_in k a n c1 c2 c3)
    clear c
    go_enter Try.func18, Try.ntmps18
    go_wp2_with fail
    refine (rmix_any _ (wr _).1 (wr _).2 _).mono ?_
    rintro e w' ⟨rfl, rfl⟩
    go_wp2
    go_ret
    exact ⟨by rw [H.out]; rfl, by (repeat' (first | exact Below.refl _ _ | assumption | refine b_alloc ?_ _ | refine b_over ?_ _ | refine b_drew ?_ | refine b_call ?_ (by assumption)))⟩
theorem linkBack_any (k a n : Int) (h0 : 0 ≤ k) (h1 : k < 18446744073709551616) (ha : -9223372036854775808 ≤ a) (hb : a ≤ 9223372036854775807) (hn : -9223372036854775808 ≤ n) (hm : n ≤ 9223372036854775807) (w : World) :
    Calls Try.prog 3 #[.int .u64 k, .int .i64 a, .int .i64 n] w fun e w' => e = .returned (.bool true) ∧ Below w.heap.size w w' := by
  by_cases c : a < 0 ∨ n < -1 ∨ 2147483647 < n
  · have T : (putI k a n == 0) = true := by rw [putI_out k a n c]; rfl
    rcases (show a < 0 ∨ (0 ≤ a ∧ n < -1) ∨ (0 ≤ a ∧ -1 ≤ n ∧ 2147483647 < n) by omega) with c | ⟨c, c2⟩ | ⟨c, c2, c3⟩
    all_goals
      go_enter Try.func3, Try.ntmps3
      go_wp2_with fail
      refine (put_any k a n h0 h1 ha hb hn hm _).mono ?_
      rintro e w1 ⟨rfl, hb1⟩
      go_wp2_with fail
      refine (awake6_any _).mono ?_
      rintro e w2 ⟨rfl, hb2⟩
      go_wp2
      go_ret
      exact ⟨rfl, by (repeat' (first | exact Below.refl _ _ | assumption | refine b_alloc ?_ _ | refine b_over ?_ _ | refine b_drew ?_ | refine b_call ?_ (by assumption)))⟩
  · have c1 : 0 ≤ a := by omega
    have c2 : -1 ≤ n := by omega
    have c3 : n ≤ 2147483647 := by omega
    have gp := get_put k a n c1 c2 c3
    have g1 : getI k a (putI k a n) = n := by rw [getI_yes _ _ _ gp.1]; exact gp.2
    have G1 : (getI k a (putI k a n) == n) = true := by rw [g1]; simp
    have G2 : isI k a (putI k a n) = true := gp.1
    clear c gp g1
    go_enter Try.func3, Try.ntmps3
    go_wp2_with fail
    refine wp_region_over_lit (by kernel_rfl) (by kernel_rfl) ?_
    repeat (quiet_step ((first | (go_at_call 15; exact over_call (put_any k a n h0 h1 ha hb hn hm _)) | (go_at_call 17; exact over_call (get_any k a _ h0 h1 ha hb (putI_bd _ _ _).1 (putI_bd _ _ _).2 _)))))
    refine wpQuiet_nil ?_
    rintro _ ⟨x, rfl⟩
    go_wp2_with fail
    refine (awake6_any _).mono ?_
    rintro e w2 ⟨rfl, hb2⟩
    go_wp2
    go_ret
    exact ⟨rfl, by (repeat' (first | exact Below.refl _ _ | assumption | refine b_alloc ?_ _ | refine b_over ?_ _ | refine b_drew ?_ | refine b_call ?_ (by assumption)))⟩
theorem linkPut_any (s a n : Int) (h0 : 0 ≤ s) (h1 : s < 18446744073709551616) (ha : -9223372036854775808 ≤ a) (hb : a ≤ 9223372036854775807) (hn : -9223372036854775808 ≤ n) (hm : n ≤ 9223372036854775807) (w : World) :
    Calls Try.prog 6 #[.int .u64 s, .int .i64 a, .int .i64 n] w fun e w' => e = .returned (.bool true) ∧ Below w.heap.size w w' := by
  have hk := keyI_bd s
  have hx := canx (keyI s) a hk.1 hk.2
  have G : (canI (keyI s) a == mixI (bits .xor .u64 (keyI s) (IntKind.u64.wrap a))) = true := by simp [canI]
  go_enter Try.func6, Try.ntmps6
  go_wp2_with fail
  refine (new_any s h0 h1 _).mono ?_
  rintro e w1 ⟨rfl, hb1⟩
  go_wp2_with fail
  refine wp_region_over_lit (by kernel_rfl) (by kernel_rfl) ?_
  repeat (quiet_step ((first | (go_at_call 20; exact over_call (rkey_any s h0 h1 _)) | (go_at_call 15; exact over_call (put_any _ a n hk.1 hk.2 ha hb hn hm _)) | (go_at_call 18; exact over_call (rput_any _ a n hk.1 hk.2 ha hb hn hm _)) | (go_at_call 21; exact over_call (canary_any _ a hk.1 hk.2 _)) | (go_at_call 22; exact over_call_same (rmix_any _ hx.1 hx.2 _)) | (go_at_call 16; exact over_call (awake6_any _)))))
  refine wpQuiet_nil ?_
  rintro _ ⟨x, rfl⟩
  go_wp2
  go_ret
  exact ⟨rfl, by (repeat' (first | exact Below.refl _ _ | assumption | refine b_alloc ?_ _ | refine b_over ?_ _ | refine b_drew ?_ | refine b_call ?_ (by assumption)))⟩
theorem linkApart_any (k a n n' q : Int) (h0 : 0 ≤ k) (h1 : k < 18446744073709551616) (hq : 0 ≤ q) (hq' : q ≤ 255) (w : World) :
    Calls Try.prog 5 #[.int .u64 k, .int .i64 a, .int .i64 n, .int .i64 n', .int .u8 q] w fun e w' => e = .returned (.bool true) ∧ Below w.heap.size w w' := by
  have e1 := i64_and40 a
  have e2 := i64_and31 n
  have e3 := i64_and31 n'
  have e4 := u8_and15 q hq (by omega)
  have A0 : 0 ≤ a % 1099511627776 := by omega
  have A1 : a % 1099511627776 ≤ 1099511627775 := by omega
  have N0 : 0 ≤ n % 2147483648 := by omega
  have N1 : n % 2147483648 ≤ 2147483647 := by omega
  have M0 : 0 ≤ n' % 2147483648 := by omega
  have M1 : n' % 2147483648 ≤ 2147483647 := by omega
  have Q0 : 0 ≤ q % 16 := by omega
  have Q1 : q % 16 ≤ 15 := by omega
  generalize a % 1099511627776 = a' at *
  generalize n % 2147483648 = m at *
  generalize n' % 2147483648 = m' at *
  generalize q % 16 = q' at *
  obtain ⟨s, t, ht, hs, hs', e5⟩ := shl1 q' Q0 Q1
  have B := putI_bd k a' m
  have ht' : t < 18446744073709551616 := by rw [ht]; exact Nat.lt_of_le_of_lt (Nat.pow_le_pow_right (by decide) hs') (by decide)
  have C := xor_bd (putI k a' m) (t : Int) B.1 B.2 (by omega) (by omega)
  have G := isI_turned k a' m s t ht hs hs' A0 (by omega) N1
  have G1 := getI_no _ _ _ G
  generalize hT : (t : Int) = T at *
  clear hT ht ht' t s hs hs' B
  have E1 : ((putI k a' m == putI k a' m') == (m == m')) = true := by
    by_cases c : m = m'
    · subst c; simp
    · have : putI k a' m ≠ putI k a' m' := fun h => c (putI_inj k a' m m' A0 (by omega) N1 (by omega) M1 h)
      rw [beq_false_of_ne c, beq_false_of_ne this]; rfl
  go_enter Try.func5, Try.ntmps5
  go_wp2_with fail
  refine wp_region_over_lit (by kernel_rfl) (by kernel_rfl) ?_
  repeat (quiet_step ((first | (go_at_call 15; exact over_call (put_any k a' m h0 h1 (by omega) (by omega) (by omega) (by omega) _)) | (go_at_call 17; exact over_call (get_any k a' _ h0 h1 (by omega) (by omega) C.1 C.2 _)))))
  refine wpQuiet_nil ?_
  intro w1 hb1; replace hb1 := over_elim hb1; obtain ⟨hc1, hf1⟩ := bcell hb1; have hz1 := hb1.size; simp only [World.size_alloc, World.size_setCell, World.size_drew] at hz1
  have hz : w.heap.size < w1.heap.size := by omega
  go_wp2_with fail
  refine wp_region_over_lit (by kernel_rfl) (by kernel_rfl) ?_
  repeat (quiet_step ((first | (go_at_call 15; exact over_call (put_any k a' _ h0 h1 (by omega) (by omega) (by omega) (by omega) _)) | (go_at_call 16; exact over_call (awake6_any _)))))
  refine wpQuiet_nil ?_
  rintro _ ⟨x, rfl⟩
  go_wp2
  go_ret
  exact ⟨rfl, by (repeat' (first | exact Below.refl _ _ | assumption | refine b_alloc ?_ _ | refine b_over ?_ _ | refine b_drew ?_ | refine b_call ?_ (by assumption)))⟩
end Go.Proofs.Ytakcodbbecdfkaa
