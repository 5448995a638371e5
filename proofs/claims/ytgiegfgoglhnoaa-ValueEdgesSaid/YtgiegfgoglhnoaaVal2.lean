/- Layers 1 and 23: orders of floats; ours and the document's. Conditions: words have 64 bits. -/
import Derived.Test.YtgiegfgoglhnoaaVal1
namespace Go.Proofs.Ytgiegfgoglhnoaa
open Go.RowKit
set_option linter.unusedVariables false
set_option linter.unusedSimpArgs false
attribute [local go_sem] run_fbits run_ffrom
theorem abs_low {b : Nat} (hb : b < 18446744073709551616) : (bits .andNot .u64 (b : Int) 9223372036854775808).toNat = b % 9223372036854775808 := by
  rw [show (9223372036854775808 : Int) = ((9223372036854775808 : Nat) : Int) from rfl, u64_andNot_nat b _ hb (by omega), Int.toNat_natCast]
  rw [show 18446744073709551615 - 9223372036854775808 = 2 ^ 63 - 1 by omega, Nat.and_two_pow_sub_one_eq_mod]
theorem abs_any (b : Nat) (w : World) (hb : b < 18446744073709551616) : Calls Try.prog 43 #[.float .f64 b] w fun e w' => e = .returned (.float .f64 (b % 9223372036854775808)) ∧ w = w' := by
  have H := Lib.hid (abs_low hb)
  clear hb
  go_enter Try.func43, Try.ntmps43
  go_wp2_with fail
  go_ret
  exact ⟨by rw [← H.out]; first | done | rfl, rfl⟩
theorem total_any (a b : Nat) (w : World) (ha : a < 18446744073709551616) (hb : b < 18446744073709551616) : Calls Try.prog 28 #[.float .f64 a, .float .f64 b] w fun e w' => e = .returned (.int .i64 (totalO a b)) ∧ w = w' := by
  have H : Hid (totalO a b = if kindO a < kindO b then -1 else if kindO b < kindO a then 1 else if ltB a b = true then -1 else if ltB b a = true then 1 else 0) := Lib.hid rfl
  have HC : Hid (cmpI (kindO a) (kindO b) = if kindO a < kindO b then -1 else if kindO b < kindO a then 1 else 0) := Lib.hid rfl
  have KA := fun w => Lib.hid (kind_any a w ha)
  have KB := fun w => Lib.hid (kind_any b w hb)
  have T1 := Lib.hid (lt_spell a b)
  have T2 := Lib.hid (gt_spell a b)
  clear ha hb
  rcases Int.lt_trichotomy (kindO a) (kindO b) with h | h | h
  · have H1 : Hid (totalO a b = -1) := Lib.hid (by rw [H.out, if_pos h])
    have H2 : Hid (cmpI (kindO a) (kindO b) = -1) := Lib.hid (by rw [HC.out, if_pos h])
    clear h
    go_enter Try.func28, Try.ntmps28
    go_wp2_with fail
    refine (KA _).out.mono ?_
    rintro e w1 ⟨rfl, rfl⟩
    go_wp2_with fail
    refine (KB _).out.mono ?_
    rintro e w1 ⟨rfl, rfl⟩
    go_wp2_with fail
    refine (cmp_any _ _ _).mono ?_
    rintro e w1 ⟨rfl, rfl⟩
    rw [H2.out]
    go_wp2_with fail
    go_ret
    exact ⟨by rw [H1.out]; first | done | rfl, rfl⟩
  · have H2 : Hid (cmpI (kindO a) (kindO b) = 0) := Lib.hid (by rw [HC.out, if_neg (by omega), if_neg (by omega)])
    cases hl : ltB a b with
    | true =>
      have H1 : Hid (totalO a b = -1) := Lib.hid (by rw [H.out, if_neg (by omega), if_neg (by omega), hl]; rfl)
      have t1 := T1.out
      rw [hl] at t1
      clear h hl
      go_enter Try.func28, Try.ntmps28
      go_wp2_with fail
      refine (KA _).out.mono ?_
      rintro e w1 ⟨rfl, rfl⟩
      go_wp2_with fail
      refine (KB _).out.mono ?_
      rintro e w1 ⟨rfl, rfl⟩
      go_wp2_with fail
      refine (cmp_any _ _ _).mono ?_
      rintro e w1 ⟨rfl, rfl⟩
      rw [H2.out]
      go_wp2_with fail
      go_ret
      exact ⟨by rw [H1.out]; first | done | rfl, rfl⟩
    | false =>
      cases hg : ltB b a with
      | true =>
        have H1 : Hid (totalO a b = 1) := Lib.hid (by rw [H.out, if_neg (by omega), if_neg (by omega), hl, hg]; rfl)
        have t1 := T1.out
        have t2 := T2.out
        rw [hl] at t1
        rw [hg] at t2
        clear h hl hg
        go_enter Try.func28, Try.ntmps28
        go_wp2_with fail
        refine (KA _).out.mono ?_
        rintro e w1 ⟨rfl, rfl⟩
        go_wp2_with fail
        refine (KB _).out.mono ?_
        rintro e w1 ⟨rfl, rfl⟩
        go_wp2_with fail
        refine (cmp_any _ _ _).mono ?_
        rintro e w1 ⟨rfl, rfl⟩
        rw [H2.out]
        go_wp2_with fail
        go_ret
        exact ⟨by rw [H1.out]; first | done | rfl, rfl⟩
      | false =>
        have H1 : Hid (totalO a b = 0) := Lib.hid (by rw [H.out, if_neg (by omega), if_neg (by omega), hl, hg]; rfl)
        have t1 := T1.out
        have t2 := T2.out
        rw [hl] at t1
        rw [hg] at t2
        clear h hl hg
        go_enter Try.func28, Try.ntmps28
        go_wp2_with fail
        refine (KA _).out.mono ?_
        rintro e w1 ⟨rfl, rfl⟩
        go_wp2_with fail
        refine (KB _).out.mono ?_
        rintro e w1 ⟨rfl, rfl⟩
        go_wp2_with fail
        refine (cmp_any _ _ _).mono ?_
        rintro e w1 ⟨rfl, rfl⟩
        rw [H2.out]
        go_wp2_with fail
        go_ret
        exact ⟨by rw [H1.out]; first | done | rfl, rfl⟩
  · have H1 : Hid (totalO a b = 1) := Lib.hid (by rw [H.out, if_neg (by omega), if_pos h])
    have H2 : Hid (cmpI (kindO a) (kindO b) = 1) := Lib.hid (by rw [HC.out, if_neg (by omega), if_pos h])
    clear h
    go_enter Try.func28, Try.ntmps28
    go_wp2_with fail
    refine (KA _).out.mono ?_
    rintro e w1 ⟨rfl, rfl⟩
    go_wp2_with fail
    refine (KB _).out.mono ?_
    rintro e w1 ⟨rfl, rfl⟩
    go_wp2_with fail
    refine (cmp_any _ _ _).mono ?_
    rintro e w1 ⟨rfl, rfl⟩
    rw [H2.out]
    go_wp2_with fail
    go_ret
    exact ⟨by rw [H1.out]; first | done | rfl, rfl⟩
def sizeI (b : Nat) : Int := ((canon b : Nat) : Int) % 9223372036854775808
theorem rsize_any (b : Nat) (w : World) : Calls Try.prog 54 #[.float .f64 b] w fun e w' => e = .returned (.int .u64 (sizeI b)) ∧ Below w.heap.size w w' := by
  go_enter Try.func54, Try.ntmps54
  go_wp2_with fail
  refine (rbits_any _ _).mono ?_
  rintro e w1 ⟨rfl, hb1⟩
  go_wp2_with fail
  go_ret
  exact ⟨by unfold sizeI; simp, hb1⟩
theorem size_key {b : Nat} (hb : b < 18446744073709551616) (hn : isNan b = false) : sizeI b = if key b < 0 then -key b else key b := by
  unfold sizeI
  rw [canon_of hn]
  rcases Nat.lt_or_ge b 9223372036854775808 with q | q
  · rw [key_low q, if_neg (by omega)]; omega
  · rw [key_high q hb]
    by_cases h : -((b - 9223372036854775808 : Nat) : Int) < 0
    · rw [if_pos h]; omega
    · rw [if_neg h]; omega
theorem rless_any (a b : Nat) (w : World) (ha : a < 18446744073709551616) (hb : b < 18446744073709551616) : Calls Try.prog 37 #[.float .f64 a, .float .f64 b] w fun e w' => e = .returned (.bool (ltB a b)) ∧ Below w.heap.size w w' := by
  have KA := fun w => Lib.hid (rkind_any a w ha)
  have KB := fun w => Lib.hid (rkind_any b w hb)
  have za := kind_zero a
  have zb := kind_zero b
  cases na : isNan a with
  | true =>
    rw [na] at za
    have H : Hid (ltB a b = false) := Lib.hid (by unfold ltB; rw [na]; rfl)
    clear na zb ha hb
    go_enter Try.func37, Try.ntmps37
    go_wp2_with fail
    refine (KA _).out.mono ?_
    rintro e w1 ⟨rfl, hb1⟩
    go_wp2_with fail
    refine (KB _).out.mono ?_
    rintro e w2 ⟨rfl, hb2⟩
    go_wp2_with fail
    go_ret
    exact ⟨by rw [H.out]; first | done | rfl, b_call hb1 hb2⟩
  | false =>
    rw [na] at za
    cases nb : isNan b with
    | true =>
      rw [nb] at zb
      have H : Hid (ltB a b = false) := Lib.hid (by unfold ltB; rw [na, nb]; rfl)
      clear na nb ha hb
      go_enter Try.func37, Try.ntmps37
      go_wp2_with fail
      refine (KA _).out.mono ?_
      rintro e w1 ⟨rfl, hb1⟩
      go_wp2_with fail
      refine (KB _).out.mono ?_
      rintro e w2 ⟨rfl, hb2⟩
      go_wp2_with fail
      go_ret
      exact ⟨by rw [H.out]; first | done | rfl, b_call hb1 hb2⟩
    | false =>
      rw [nb] at zb
      have pa := kind_low na
      have pb := kind_low nb
      have sa := size_key ha na
      have sb := size_key hb nb
      have hl : ltB a b = decide (key a < key b) := by unfold ltB; rw [na, nb]; rfl
      by_cases h1 : key a < 0
      · rw [decide_eq_true h1] at pa
        rw [if_pos h1] at sa
        have s0 : (sizeI a == 0) = false := beq_false_of_ne (by omega)
        by_cases h2 : key b < 0
        · rw [decide_eq_true h2] at pb
          rw [if_pos h2] at sb
          have H : Hid (ltB a b = decide (sizeI b < sizeI a)) := Lib.hid (by rw [hl, Bool.eq_iff_iff, decide_eq_true_iff, decide_eq_true_iff]; omega)
          clear na nb ha hb sa sb hl h1 h2
          go_enter Try.func37, Try.ntmps37
          go_wp2_with fail
          refine (KA _).out.mono ?_
          rintro e w1 ⟨rfl, hb1⟩
          go_wp2_with fail
          refine (KB _).out.mono ?_
          rintro e w2 ⟨rfl, hb2⟩
          go_wp2_with fail
          refine (rsize_any _ _).mono ?_
          rintro e w3 ⟨rfl, hb3⟩
          go_wp2_with fail
          refine (rsize_any _ _).mono ?_
          rintro e w4 ⟨rfl, hb4⟩
          go_wp2_with fail
          refine (rsize_any _ _).mono ?_
          rintro e w5 ⟨rfl, hb5⟩
          go_wp2_with fail
          go_ret
          exact ⟨by rw [H.out]; first | done | rfl, b_call (b_call (b_call (b_call hb1 hb2) hb3) hb4) hb5⟩
        · rw [decide_eq_false h2] at pb
          have H : Hid (ltB a b = true) := Lib.hid (by rw [hl, decide_eq_true_iff]; omega)
          clear na nb ha hb sa sb hl h1 h2
          go_enter Try.func37, Try.ntmps37
          go_wp2_with fail
          refine (KA _).out.mono ?_
          rintro e w1 ⟨rfl, hb1⟩
          go_wp2_with fail
          refine (KB _).out.mono ?_
          rintro e w2 ⟨rfl, hb2⟩
          go_wp2_with fail
          refine (rsize_any _ _).mono ?_
          rintro e w3 ⟨rfl, hb3⟩
          go_wp2_with fail
          go_ret
          exact ⟨by rw [H.out]; first | done | rfl, b_call (b_call hb1 hb2) hb3⟩
      · rw [decide_eq_false h1] at pa
        rw [if_neg h1] at sa
        have s0 : (sizeI a == 0) = true ∨ (sizeI a == 0) = false := by cases (sizeI a == 0) <;> simp
        by_cases h2 : key b < 0
        · rw [decide_eq_true h2] at pb
          have H : Hid (ltB a b = false) := Lib.hid (by rw [hl, decide_eq_false_iff_not]; omega)
          clear na nb ha hb sa sb hl h1 h2
          rcases s0 with s0 | s0
          all_goals
            go_enter Try.func37, Try.ntmps37
            go_wp2_with fail
            refine (KA _).out.mono ?_
            rintro e w1 ⟨rfl, hb1⟩
            go_wp2_with fail
            refine (KB _).out.mono ?_
            rintro e w2 ⟨rfl, hb2⟩
            go_wp2_with fail
            refine (rsize_any _ _).mono ?_
            rintro e w3 ⟨rfl, hb3⟩
            go_wp2_with fail
            go_ret
            exact ⟨by rw [H.out]; first | done | rfl, b_call (b_call hb1 hb2) hb3⟩
        · rw [decide_eq_false h2] at pb
          rw [if_neg h2] at sb
          have H : Hid (ltB a b = decide (sizeI a < sizeI b)) := Lib.hid (by rw [hl, Bool.eq_iff_iff, decide_eq_true_iff, decide_eq_true_iff]; omega)
          clear na nb ha hb sa sb hl h1 h2
          rcases s0 with s0 | s0
          all_goals
            go_enter Try.func37, Try.ntmps37
            go_wp2_with fail
            refine (KA _).out.mono ?_
            rintro e w1 ⟨rfl, hb1⟩
            go_wp2_with fail
            refine (KB _).out.mono ?_
            rintro e w2 ⟨rfl, hb2⟩
            go_wp2_with fail
            refine (rsize_any _ _).mono ?_
            rintro e w3 ⟨rfl, hb3⟩
            go_wp2_with fail
            refine (rsize_any _ _).mono ?_
            rintro e w4 ⟨rfl, hb4⟩
            go_wp2_with fail
            refine (rsize_any _ _).mono ?_
            rintro e w5 ⟨rfl, hb5⟩
            go_wp2_with fail
            go_ret
            exact ⟨by rw [H.out]; first | done | rfl, b_call (b_call (b_call (b_call hb1 hb2) hb3) hb4) hb5⟩
theorem requal_any (a b : Nat) (w : World) (ha : a < 18446744073709551616) (hb : b < 18446744073709551616) : Calls Try.prog 38 #[.float .f64 a, .float .f64 b] w fun e w' => e = .returned (.bool (eqB a b)) ∧ Below w.heap.size w w' := by
  have KA := fun w => Lib.hid (rkind_any a w ha)
  have KB := fun w => Lib.hid (rkind_any b w hb)
  have LA := fun w => Lib.hid (rless_any a b w ha hb)
  have LB := fun w => Lib.hid (rless_any b a w hb ha)
  have za : (kindO a != 0) = !isNan a := by rw [bne, kind_zero]
  have zb : (kindO b != 0) = !isNan b := by rw [bne, kind_zero]
  have hE : eqB a b = (!isNan a && !isNan b && (!ltB a b && !ltB b a)) := by
    unfold eqB ltB
    cases isNan a <;> cases isNan b <;> simp
    rw [Bool.eq_iff_iff, Bool.and_eq_true, decide_eq_true_iff]
    simp only [Bool.not_eq_true', decide_eq_false_iff_not]; omega
  clear ha hb
  cases na : isNan a with
  | true =>
    rw [na] at za hE
    have H : Hid (eqB a b = false) := Lib.hid hE
    clear hE na zb
    go_enter Try.func38, Try.ntmps38
    go_wp2_with fail
    refine (KA _).out.mono ?_
    rintro e w1 ⟨rfl, hb1⟩
    go_wp2_with fail
    go_ret
    exact ⟨by rw [H.out]; first | done | rfl, hb1⟩
  | false =>
    rw [na] at za hE
    cases nb : isNan b with
    | true =>
      rw [nb] at zb hE
      have H : Hid (eqB a b = false) := Lib.hid hE
      clear hE na nb
      go_enter Try.func38, Try.ntmps38
      go_wp2_with fail
      refine (KA _).out.mono ?_
      rintro e w1 ⟨rfl, hb1⟩
      go_wp2_with fail
      refine (KB _).out.mono ?_
      rintro e w2 ⟨rfl, hb2⟩
      go_wp2_with fail
      go_ret
      exact ⟨by rw [H.out]; first | done | rfl, b_call hb1 hb2⟩
    | false =>
      rw [nb] at zb hE
      have H : Hid (eqB a b = (!ltB a b && !ltB b a)) := Lib.hid hE
      clear hE na nb
      go_enter Try.func38, Try.ntmps38
      go_wp2_with fail
      refine (KA _).out.mono ?_
      rintro e w1 ⟨rfl, hb1⟩
      go_wp2_with fail
      refine (KB _).out.mono ?_
      rintro e w2 ⟨rfl, hb2⟩
      go_wp2_with fail
      refine (LA _).out.mono ?_
      rintro e w3 ⟨rfl, hb3⟩
      generalize ltB a b = q1 at H ⊢
      cases q1 with
      | true =>
        go_wp2_with fail
        go_ret
        exact ⟨by rw [H.out]; first | done | rfl, b_call (b_call hb1 hb2) hb3⟩
      | false =>
        go_wp2_with fail
        refine (LB _).out.mono ?_
        rintro e w4 ⟨rfl, hb4⟩
        go_wp2_with fail
        go_ret
        exact ⟨by rw [H.out]; first | done | rfl | simp, b_call (b_call (b_call hb1 hb2) hb3) hb4⟩
def leastN (a b : Nat) : Nat := if isNan a = true ∨ isNan b = true then nan1 else if totalO a b ≤ 0 then a else b
theorem least_any (a b : Nat) (w : World) (ha : a < 18446744073709551616) (hb : b < 18446744073709551616) : Calls Try.prog 51 #[.float .f64 a, .float .f64 b] w fun e w' => e = .returned (.float .f64 (leastN a b)) ∧ w = w' := by
  have TT := fun w => Lib.hid (total_any a b w ha hb)
  have ea := ne_spell a
  have eb := ne_spell b
  clear ha hb
  cases na : isNan a with
  | true =>
    rw [na] at ea
    have H : Hid (leastN a b = nan1) := Lib.hid (by unfold leastN; rw [if_pos (Or.inl na)])
    clear na eb
    go_enter Try.func51, Try.ntmps51
    go_wp2_with fail
    refine (nan_any _).mono ?_
    rintro e w1 ⟨rfl, rfl⟩
    go_wp2_with fail
    go_ret
    exact ⟨by rw [H.out]; first | done | rfl, rfl⟩
  | false =>
    rw [na] at ea
    cases nb : isNan b with
    | true =>
      rw [nb] at eb
      have H : Hid (leastN a b = nan1) := Lib.hid (by unfold leastN; rw [if_pos (Or.inr nb)])
      clear na nb
      go_enter Try.func51, Try.ntmps51
      go_wp2_with fail
      refine (nan_any _).mono ?_
      rintro e w1 ⟨rfl, rfl⟩
      go_wp2_with fail
      go_ret
      exact ⟨by rw [H.out]; first | done | rfl, rfl⟩
    | false =>
      rw [nb] at eb
      have H : Hid (leastN a b = if totalO a b ≤ 0 then a else b) := Lib.hid (by unfold leastN; rw [if_neg (by rw [na, nb]; simp)])
      clear na nb
      by_cases ht : totalO a b ≤ 0
      · have t := decide_eq_true ht
        have H2 := Lib.hid (H.out.trans (if_pos ht))
        clear ht
        go_enter Try.func51, Try.ntmps51
        go_wp2_with fail
        refine (TT _).out.mono ?_
        rintro e w1 ⟨rfl, rfl⟩
        go_wp2_with fail
        go_ret
        exact ⟨by rw [H2.out]; first | done | rfl, rfl⟩
      · have t := decide_eq_false ht
        have H2 := Lib.hid (H.out.trans (if_neg ht))
        clear ht
        go_enter Try.func51, Try.ntmps51
        go_wp2_with fail
        refine (TT _).out.mono ?_
        rintro e w1 ⟨rfl, rfl⟩
        go_wp2_with fail
        go_ret
        exact ⟨by rw [H2.out]; first | done | rfl, rfl⟩
end Go.Proofs.Ytgiegfgoglhnoaa
