/- The contracts of link's functions and of their references: each answers what layer 6's plain mathematics says, and writes nothing that was there. Conditions: the key and the word are numbers of 64 bits. -/
import Derived.Test.YtgbbnmjfkhconaaProg
import Derived.Test.YtgbbnmjfkhconaaBase
import Derived.Test.YtgbbnmjfkhconaaL6
namespace Go.Proofs.Ytgbbnmjfkhconaa
open Go.RowKit
set_option linter.unusedVariables false
set_option linter.unusedSimpArgs false
set_option linter.unusedVariables false
theorem mix_any (x : Int) (h0 : 0 ≤ x) (h1 : x < 18446744073709551616) (w : World) :
    Calls Try.prog 102 #[.int .u64 x] w fun e w' => e = .returned (.int .u64 (mixI x)) ∧ w = w' := by
  go_enter Try.func102, Try.ntmps102
  go_wp2
  go_ret
  exact ⟨by rw [← mix_eq x h0 h1]; rfl, rfl⟩
theorem rmix_any (x : Int) (h0 : 0 ≤ x) (h1 : x < 18446744073709551616) (w : World) :
    Calls Try.prog 120 #[.int .u64 x] w fun e w' => e = .returned (.int .u64 (mixI x)) ∧ w = w' := by
  go_enter Try.func120, Try.ntmps120
  go_wp2
  go_ret
  exact ⟨by rw [← mix_eq' x h0 h1]; rfl, rfl⟩
theorem mask_any (k a : Int) (ha : 0 ≤ a) (hb : a ≤ 9223372036854775807) (h0 : 0 ≤ k) (h1 : k < 18446744073709551616) (w : World) :
    Calls Try.prog 118 #[.agg #[.int .u64 k], .int .i64 a] w fun e w' => e = .returned (.int .u64 (maskI k a)) ∧ Below w.heap.size w w' := by
  go_enter Try.func118, Try.ntmps118
  go_wp2_with fail
  refine (mix_any _ (wr _).1 (wr _).2 _).mono ?_
  rintro e w' ⟨rfl, rfl⟩
  go_wp2
  go_ret
  exact ⟨rfl, by go_grown⟩
theorem put_any (k a n : Int) (h0 : 0 ≤ k) (h1 : k < 18446744073709551616) (ha : -9223372036854775808 ≤ a) (hb : a ≤ 9223372036854775807) (hn : -9223372036854775808 ≤ n) (hm : n ≤ 9223372036854775807) (w : World) :
    Calls Try.prog 112 #[.agg #[.int .u64 k], .int .i64 a, .int .i64 n] w fun e w' => e = .returned (.int .u64 (putI k a n)) ∧ Below w.heap.size w w' := by
  by_cases c : a < 0 ∨ n < -1 ∨ 2147483647 < n
  · have H := Lib.hid (putI_out k a n c)
    rcases (show a < 0 ∨ (0 ≤ a ∧ n < -1) ∨ (0 ≤ a ∧ -1 ≤ n ∧ 2147483647 < n) by omega) with c | ⟨c, c2⟩ | ⟨c, c2, c3⟩
    all_goals
      go_enter Try.func112, Try.ntmps112
      go_wp2
      go_ret
      exact ⟨by rw [H.out]; rfl, by go_grown⟩
  · have e : putI k a n = bits .xor .u64 (bits .or .u64 (n + 1) 6510516211317473280) (maskI k a) := by unfold putI; rw [if_neg c]
    have H := Lib.hid e
    have c1 : 0 ≤ a := by omega
    have c2 : -1 ≤ n := by omega
    have c3 : n ≤ 2147483647 := by omega
    clear c e
    go_enter Try.func112, Try.ntmps112
    go_wp2_with fail
    refine (mask_any k a c1 hb h0 h1 _).mono ?_
    rintro e w' ⟨rfl, hb1⟩
    go_wp2
    go_ret
    exact ⟨by rw [H.out]; rfl, ((Below.refl _ _).alloc (Nat.le_refl _) _).trans (hb1.mono (by simp))⟩

theorem isI_neg (k a u : Int) (h : a < 0) : isI k a u = false := by unfold isI; rw [decide_eq_false (by omega)]; rfl
def getI (k a u : Int) : Int := if isI k a u = true then loI (xI k a u) - 1 else 0
theorem getI_no (k a u : Int) (h : isI k a u = false) : getI k a u = 0 := by unfold getI; rw [if_neg (by rw [h]; decide)]
theorem getI_yes (k a u : Int) (h : isI k a u = true) : getI k a u = loI (xI k a u) - 1 := by unfold getI; rw [if_pos h]
theorem get_any (k a u : Int) (h0 : 0 ≤ k) (h1 : k < 18446744073709551616) (ha : -9223372036854775808 ≤ a) (hb : a ≤ 9223372036854775807) (hu : 0 ≤ u) (hv : u < 18446744073709551616) (w : World) :
    Calls Try.prog 108 #[.agg #[.int .u64 k], .int .i64 a, .int .u64 u] w fun e w' => e = .returned (.tuple #[.int .i64 (getI k a u), .bool (isI k a u)]) ∧ Below w.heap.size w w' := by
  by_cases c : a < 0
  · have H := Lib.hid (isI_neg k a u c)
    have G := Lib.hid (getI_no k a u (isI_neg k a u c))
    go_enter Try.func108, Try.ntmps108
    go_wp2
    go_ret2
    exact ⟨by rw [H.out, G.out]; rfl, by go_grown⟩
  · have c1 : 0 ≤ a := by omega
    have bx := xI_bd k a u hu hv
    by_cases c2 : hiI (xI k a u) = 6510516211317473280
    · by_cases c3 : loI (xI k a u) ≤ 2147483648
      · have e1 : isI k a u = true := by unfold isI; rw [decide_eq_true c1, decide_eq_true c3, c2]; rfl
        have H := Lib.hid e1
        have G := Lib.hid (getI_yes k a u e1)
        have t1 : (bits BinOp.andNot IntKind.u64 (bits BinOp.xor IntKind.u64 u (maskI k a)) 4294967295 != 6510516211317473280) = false := by
          show (hiI (xI k a u) != 6510516211317473280) = false
          rw [c2]; rfl
        have t2 : ¬ (2147483648 < bits BinOp.and IntKind.u64 (bits BinOp.xor IntKind.u64 u (maskI k a)) 4294967295) := by
          show ¬ (2147483648 < loI (xI k a u)); omega
        have t3 : 0 ≤ bits BinOp.and IntKind.u64 (bits BinOp.xor IntKind.u64 u (maskI k a)) 4294967295 := by
          show 0 ≤ loI (xI k a u); rw [loI_eq _ bx.1 bx.2]; omega
        clear c c2 c3 e1
        go_enter Try.func108, Try.ntmps108
        go_wp2_with fail
        refine (mask_any k a c1 hb h0 h1 _).mono ?_
        rintro e w' ⟨rfl, hb1⟩
        go_wp2
        go_ret2
        exact ⟨by rw [H.out, G.out]; rfl, ((Below.refl _ _).alloc (Nat.le_refl _) _).trans (hb1.mono (by simp))⟩
      · have e1 : isI k a u = false := by unfold isI; rw [decide_eq_false c3, Bool.and_false]
        have H := Lib.hid e1
        have G := Lib.hid (getI_no k a u e1)
        have t1 : (bits BinOp.andNot IntKind.u64 (bits BinOp.xor IntKind.u64 u (maskI k a)) 4294967295 != 6510516211317473280) = false := by
          show (hiI (xI k a u) != 6510516211317473280) = false
          rw [c2]; rfl
        have t2 : 2147483648 < bits BinOp.and IntKind.u64 (bits BinOp.xor IntKind.u64 u (maskI k a)) 4294967295 := by
          show 2147483648 < loI (xI k a u); omega
        clear c c2 c3 e1
        go_enter Try.func108, Try.ntmps108
        go_wp2_with fail
        refine (mask_any k a c1 hb h0 h1 _).mono ?_
        rintro e w' ⟨rfl, hb1⟩
        go_wp2
        go_ret2
        exact ⟨by rw [H.out, G.out]; rfl, ((Below.refl _ _).alloc (Nat.le_refl _) _).trans (hb1.mono (by simp))⟩
    · have e1 : isI k a u = false := by unfold isI; rw [beq_false_of_ne c2, Bool.and_false, Bool.false_and]
      have H := Lib.hid e1
      have G := Lib.hid (getI_no k a u e1)
      have t1 : (bits BinOp.andNot IntKind.u64 (bits BinOp.xor IntKind.u64 u (maskI k a)) 4294967295 != 6510516211317473280) = true := by
        show (hiI (xI k a u) != 6510516211317473280) = true
        rw [bne_iff_ne]; exact c2
      clear c c2 e1
      go_enter Try.func108, Try.ntmps108
      go_wp2_with fail
      refine (mask_any k a c1 hb h0 h1 _).mono ?_
      rintro e w' ⟨rfl, hb1⟩
      go_wp2
      go_ret2
      exact ⟨by rw [H.out, G.out]; rfl, ((Below.refl _ _).alloc (Nat.le_refl _) _).trans (hb1.mono (by simp))⟩
end Go.Proofs.Ytgbbnmjfkhconaa
