/- The contracts of link's New and Canary, and of the reference's Put. Conditions: numbers of their kinds. -/
import Derived.Test.YtgbbnmjfkhconaaLink
namespace Go.Proofs.Ytgbbnmjfkhconaa
open Go.RowKit
set_option linter.unusedVariables false
set_option linter.unusedSimpArgs false
attribute [local go_sem] over_cell over_frozen
def keyI (s : Int) : Int := mixI (IntKind.u64.wrap (s + 11400714819323198485))
theorem keyI_bd (s : Int) : 0 ≤ keyI s ∧ keyI s < 18446744073709551616 := mixI_bd _
theorem new_any (s : Int) (h0 : 0 ≤ s) (h1 : s < 18446744073709551616) (w : World) :
    Calls Try.prog 61 #[.int .u64 s] w fun e w' => e = .returned (.agg #[.int .u64 (keyI s)]) ∧ Below w.heap.size w w' := by
  go_enter Try.func61, Try.ntmps61
  go_wp2_with fail
  refine (mix_any _ (wr _).1 (wr _).2 _).mono ?_
  rintro e w' ⟨rfl, rfl⟩
  go_wp2
  refine bodyPost_ret (v := .agg #[.int .u64 _]) (by simp [results, Try.results61, go_sem]; rfl) rfl ⟨rfl, by go_grown⟩
def canI (k a : Int) : Int := mixI (bits .xor .u64 k (IntKind.u64.wrap a))
theorem canI_bd (k a : Int) : 0 ≤ canI k a ∧ canI k a < 18446744073709551616 := mixI_bd _
theorem canx (k a : Int) (h0 : 0 ≤ k) (h1 : k < 18446744073709551616) : 0 ≤ bits .xor .u64 k (IntKind.u64.wrap a) ∧ bits .xor .u64 k (IntKind.u64.wrap a) < 18446744073709551616 := xor_bd _ _ h0 h1 (wr _).1 (wr _).2
theorem canary_any (k a : Int) (h0 : 0 ≤ k) (h1 : k < 18446744073709551616) (w : World) :
    Calls Try.prog 109 #[.agg #[.int .u64 k], .int .i64 a] w fun e w' => e = .returned (.int .u64 (canI k a)) ∧ Below w.heap.size w w' := by
  have hx := canx k a h0 h1
  go_enter Try.func109, Try.ntmps109
  go_wp2_with fail
  refine (mix_any _ hx.1 hx.2 _).mono ?_
  rintro e w' ⟨rfl, rfl⟩
  go_wp2
  go_ret
  exact ⟨rfl, by (repeat' (first | exact Below.refl _ _ | assumption | refine b_alloc ?_ _ | refine b_over ?_ _ | refine b_drew ?_ | refine b_call ?_ (by assumption)))⟩
theorem rput_any (k a n : Int) (h0 : 0 ≤ k) (h1 : k < 18446744073709551616) (ha : -9223372036854775808 ≤ a) (hb : a ≤ 9223372036854775807) (hn : -9223372036854775808 ≤ n) (hm : n ≤ 9223372036854775807) (w : World) :
    Calls Try.prog 117 #[.int .u64 k, .int .i64 a, .int .i64 n] w fun e w' => e = .returned (.int .u64 (putI k a n)) ∧ Below w.heap.size w w' := by
  by_cases c : a < 0 ∨ n < -1 ∨ 2147483647 < n
  · have H := Lib.hid (putI_out k a n c)
    rcases (show a < 0 ∨ (0 ≤ a ∧ n < -1) ∨ (0 ≤ a ∧ -1 ≤ n ∧ 2147483647 < n) by omega) with c | ⟨c, c2⟩ | ⟨c, c2, c3⟩
    all_goals
      go_enter Try.func117, Try.ntmps117
      go_wp2
      go_ret
      exact ⟨by rw [H.out]; rfl, by (repeat' (first | exact Below.refl _ _ | assumption | refine b_alloc ?_ _ | refine b_over ?_ _ | refine b_drew ?_ | refine b_call ?_ (by assumption)))⟩
  · have c1 : 0 ≤ a := by omega
    have c2 : -1 ≤ n := by omega
    have c3 : n ≤ 2147483647 := by omega
    have H := Lib.hid (putI_in k a n c1 c2 c3)
    clear c
    go_enter Try.func117, Try.ntmps117
    go_wp2_with fail
    refine (rmix_any _ (wr _).1 (wr _).2 _).mono ?_
    rintro e w' ⟨rfl, rfl⟩
    go_wp2
    go_ret
    exact ⟨by rw [H.out]; rfl, by (repeat' (first | exact Below.refl _ _ | assumption | refine b_alloc ?_ _ | refine b_over ?_ _ | refine b_drew ?_ | refine b_call ?_ (by assumption)))⟩
end Go.Proofs.Ytgbbnmjfkhconaa
