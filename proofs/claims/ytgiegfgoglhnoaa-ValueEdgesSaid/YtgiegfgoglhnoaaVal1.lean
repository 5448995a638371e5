/- Layers 1 and 23: floats' bits, kinds and orders; ours and the document's. Conditions: words have 64 bits. -/
import Derived.Test.YtgiegfgoglhnoaaProg
import Derived.Test.YtgiegfgoglhnoaaBlk
import Derived.Test.YtgiegfgoglhnoaaFlo2
namespace Go.Proofs.Ytgiegfgoglhnoaa
open Go.RowKit
set_option linter.unusedVariables false
set_option linter.unusedSimpArgs false
theorem run_fbits (b : Nat) (w : World) : (callFunc 41 #[.float .f64 b]).run Try.prog w = .ok (.value (.int .u64 (b : Nat))) w := by
  rw [run_callFunc_extern (e := Extern.MathFloatBits.float64bits) Try.func41 (by kernel_rfl) (by kernel_rfl) (by kernel_rfl) (by kernel_rfl)]
  rfl
theorem run_ffrom (n : Int) (w : World) : (callFunc 34 #[.int .u64 n]).run Try.prog w = .ok (.value (.float .f64 n.toNat)) w := by
  rw [run_callFunc_extern (e := Extern.MathFloatBits.float64frombits) Try.func34 (by kernel_rfl) (by kernel_rfl) (by kernel_rfl) (by kernel_rfl)]
  rfl
attribute [local go_sem] run_fbits run_ffrom
theorem bits_any (b : Nat) (w : World) : Calls Try.prog 22 #[.float .f64 b] w fun e w' => e = .returned (.int .u64 (canon b : Nat)) ∧ w = w' := by
  have h := ne_spell b
  cases hn : isNan b with
  | true =>
    rw [hn] at h
    have HN := Lib.hid hn; clear hn
    go_enter Try.func22, Try.ntmps22
    go_wp2_with fail
    go_ret
    exact ⟨by unfold canon; rw [if_pos HN.out]; rfl, rfl⟩
  | false =>
    rw [hn] at h
    have HN := Lib.hid hn; clear hn
    go_enter Try.func22, Try.ntmps22
    go_wp2_with fail
    go_ret
    exact ⟨by unfold canon; rw [HN.out]; rfl, rfl⟩
theorem float_any (b : Nat) (w : World) : Calls Try.prog 19 #[.int .u64 (b : Nat)] w fun e w' => e = .returned (.float .f64 (canon b)) ∧ w = w' := by
  go_enter Try.func19, Try.ntmps19
  go_wp2_with fail
  refine (bits_any _ _).mono ?_
  rintro e w1 ⟨rfl, rfl⟩
  go_wp2_with fail
  go_ret
  exact ⟨by simp, rfl⟩
def nan1 : Nat := 9221120237041090561
theorem nan_any (w : World) : Calls Try.prog 56 #[] w fun e w' => e = .returned (.float .f64 nan1) ∧ w = w' := by
  go_enter Try.func56, Try.ntmps56
  go_wp2_with fail
  go_ret
  exact ⟨rfl, rfl⟩
theorem of_any (b : Nat) (w : World) : Calls Try.prog 52 #[.int .u64 (b : Nat)] w fun e w' => e = .returned (.agg #[.bool (negI b), .int .i64 (expI b), .int .u64 (frcI b)]) ∧ Below w.heap.size w w' := by
  go_enter Try.func52, Try.ntmps52
  go_wp2_with fail
  exact bodyPost_ret (v := .agg #[.bool (negI b), .int .i64 (expI b), .int .u64 (frcI b)]) (by simp [results, Try.results52, go_sem, negI, expI, frcI]) rfl ⟨rfl, b_alloc (Below.refl _ _) _⟩
theorem rbits_any (b : Nat) (w : World) : Calls Try.prog 36 #[.float .f64 b] w fun e w' => e = .returned (.int .u64 (canon b : Nat)) ∧ Below w.heap.size w w' := by
  have hp := isNan_parts b
  rcases (show ((expI b == 2047) = false ∧ isNan b = false) ∨ ((expI b == 2047) = true ∧ decide (0 < frcI b) = false ∧ isNan b = false) ∨ ((expI b == 2047) = true ∧ decide (0 < frcI b) = true ∧ isNan b = true) by
    rw [hp]; cases (expI b == 2047) <;> cases decide (0 < frcI b) <;> simp) with ⟨q1, hn⟩ | ⟨q1, q2, hn⟩ | ⟨q1, q2, hn⟩
  · have HN := Lib.hid (canon_of hn); clear hp hn
    go_enter Try.func36, Try.ntmps36
    go_wp2_with fail
    refine (of_any _ _).mono ?_
    rintro e w1 ⟨rfl, hb1⟩
    go_wp2_with fail
    go_ret
    exact ⟨by rw [HN.out]; first | done | rfl, b_alloc hb1 _⟩
  · have HN := Lib.hid (canon_of hn); clear hp hn
    go_enter Try.func36, Try.ntmps36
    go_wp2_with fail
    refine (of_any _ _).mono ?_
    rintro e w1 ⟨rfl, hb1⟩
    go_wp2_with fail
    go_ret
    exact ⟨by rw [HN.out]; first | done | rfl, b_alloc hb1 _⟩
  · have HN := Lib.hid (canon_nan hn); clear hp hn
    go_enter Try.func36, Try.ntmps36
    go_wp2_with fail
    refine (of_any _ _).mono ?_
    rintro e w1 ⟨rfl, hb1⟩
    go_wp2_with fail
    go_ret
    exact ⟨by rw [HN.out]; first | done | rfl, b_alloc hb1 _⟩
theorem clean_any (b : Nat) (w : World) : Calls Try.prog 31 #[.int .u64 (b : Nat)] w fun e w' => e = .returned (.int .u64 (canon b : Nat)) ∧ Below w.heap.size w w' := by
  have hp := isNan_parts b
  rcases (show ((expI b == 2047) = false ∧ isNan b = false) ∨ ((expI b == 2047) = true ∧ decide (0 < frcI b) = false ∧ isNan b = false) ∨ ((expI b == 2047) = true ∧ decide (0 < frcI b) = true ∧ isNan b = true) by
    rw [hp]; cases (expI b == 2047) <;> cases decide (0 < frcI b) <;> simp) with ⟨q1, hn⟩ | ⟨q1, q2, hn⟩ | ⟨q1, q2, hn⟩
  · have HN := Lib.hid (canon_of hn); clear hp hn
    go_enter Try.func31, Try.ntmps31
    go_wp2_with fail
    refine (of_any _ _).mono ?_
    rintro e w1 ⟨rfl, hb1⟩
    go_wp2_with fail
    go_ret
    exact ⟨by rw [HN.out]; first | done | rfl, b_alloc hb1 _⟩
  · have HN := Lib.hid (canon_of hn); clear hp hn
    go_enter Try.func31, Try.ntmps31
    go_wp2_with fail
    refine (of_any _ _).mono ?_
    rintro e w1 ⟨rfl, hb1⟩
    go_wp2_with fail
    go_ret
    exact ⟨by rw [HN.out]; first | done | rfl, b_alloc hb1 _⟩
  · have HN := Lib.hid (canon_nan hn); clear hp hn
    go_enter Try.func31, Try.ntmps31
    go_wp2_with fail
    refine (of_any _ _).mono ?_
    rintro e w1 ⟨rfl, hb1⟩
    go_wp2_with fail
    go_ret
    exact ⟨by rw [HN.out]; first | done | rfl, b_alloc hb1 _⟩
theorem rfloat_any (b : Nat) (w : World) : Calls Try.prog 35 #[.int .u64 (b : Nat)] w fun e w' => e = .returned (.float .f64 b) ∧ w = w' := by
  go_enter Try.func35, Try.ntmps35
  go_wp2_with fail
  go_ret
  exact ⟨by simp, rfl⟩
theorem rkind_any (b : Nat) (w : World) (hb : b < 18446744073709551616) : Calls Try.prog 39 #[.float .f64 b] w fun e w' => e = .returned (.int .i64 (kindO b)) ∧ Below w.heap.size w w' := by
  cases hn : isNan b with
  | true =>
    have hk : Hid (kindO b = 0) := Lib.hid (by unfold kindO; rw [hn]; rfl)
    have hc := isNan_canon b
    rw [isNan_parts (canon b), hn, Bool.and_eq_true] at hc
    obtain ⟨q1, q2⟩ := hc
    clear hn hb
    go_enter Try.func39, Try.ntmps39
    go_wp2_with fail
    refine (rbits_any _ _).mono ?_
    rintro e w1 ⟨rfl, hb1⟩
    go_wp2_with fail
    refine (of_any _ _).mono ?_
    rintro e w2 ⟨rfl, hb2⟩
    go_wp2_with fail
    go_ret
    exact ⟨by rw [hk.out]; first | done | rfl, b_alloc (b_call hb1 hb2) _⟩
  | false =>
    have hk := kind_parts hb hn
    have hc := Lib.hid (canon_of hn)
    have hp := isNan_parts b
    rw [hn] at hp
    rcases (show ((expI b == 2047) = true ∧ decide (0 < frcI b) = false ∧ (expI b == 0) = false ∧ expI b = 2047) ∨ ((expI b == 2047) = false ∧ (expI b == 0) = true ∧ (frcI b == 0) = true ∧ expI b = 0 ∧ frcI b = 0) ∨ ((expI b == 2047) = false ∧ (expI b == 0) = true ∧ (frcI b == 0) = false ∧ expI b = 0 ∧ frcI b ≠ 0) ∨ ((expI b == 2047) = false ∧ (expI b == 0) = false ∧ expI b ≠ 0 ∧ expI b ≠ 2047) by
      by_cases e1 : expI b = 2047
      · refine Or.inl ⟨by rw [e1]; rfl, ?_, by rw [e1]; rfl, e1⟩
        rw [e1] at hp
        simpa using hp.symm
      · by_cases e2 : expI b = 0
        · by_cases e3 : frcI b = 0
          · exact Or.inr (Or.inl ⟨by rw [e2]; rfl, by rw [e2]; rfl, by rw [e3]; rfl, e2, e3⟩)
          · exact Or.inr (Or.inr (Or.inl ⟨by rw [e2]; rfl, by rw [e2]; rfl, beq_false_of_ne e3, e2, e3⟩))
        · exact Or.inr (Or.inr (Or.inr ⟨beq_false_of_ne e1, beq_false_of_ne e2, e2, e1⟩))) with ⟨q1, q2, q3, x1⟩ | ⟨q1, q3, q4, x1, x2⟩ | ⟨q1, q3, q4, x1, x2⟩ | ⟨q1, q3, x1, x2⟩
    · rw [show (if expI b = 0 ∧ frcI b = 0 then (4 : Int) else if expI b = 2047 then 6 else 5) = 6 by rw [if_neg (by omega), if_pos x1]] at hk
      cases hs : negI b with
      | true =>
        rw [hs, if_pos rfl] at hk
        have HK := Lib.hid hk; clear hk hp hn hb x1
        go_enter Try.func39, Try.ntmps39
        go_wp2_with fail
        refine (rbits_any _ _).mono ?_
        rintro e w1 ⟨rfl, hb1⟩
        rw [hc.out]
        go_wp2_with fail
        refine (of_any _ _).mono ?_
        rintro e w2 ⟨rfl, hb2⟩
        go_wp2_with fail
        go_ret
        exact ⟨by rw [HK.out]; first | done | rfl, b_alloc (b_call hb1 hb2) _⟩
      | false =>
        rw [hs, if_neg (by simp)] at hk
        have HK := Lib.hid hk; clear hk hp hn hb x1
        go_enter Try.func39, Try.ntmps39
        go_wp2_with fail
        refine (rbits_any _ _).mono ?_
        rintro e w1 ⟨rfl, hb1⟩
        rw [hc.out]
        go_wp2_with fail
        refine (of_any _ _).mono ?_
        rintro e w2 ⟨rfl, hb2⟩
        go_wp2_with fail
        go_ret
        exact ⟨by rw [HK.out]; first | done | rfl, b_alloc (b_call hb1 hb2) _⟩
    · rw [show (if expI b = 0 ∧ frcI b = 0 then (4 : Int) else if expI b = 2047 then 6 else 5) = 4 by rw [if_pos ⟨x1, x2⟩]] at hk
      cases hs : negI b with
      | true =>
        rw [hs, if_pos rfl] at hk
        have HK := Lib.hid hk; clear hk hp hn hb x1 x2
        go_enter Try.func39, Try.ntmps39
        go_wp2_with fail
        refine (rbits_any _ _).mono ?_
        rintro e w1 ⟨rfl, hb1⟩
        rw [hc.out]
        go_wp2_with fail
        refine (of_any _ _).mono ?_
        rintro e w2 ⟨rfl, hb2⟩
        go_wp2_with fail
        go_ret
        exact ⟨by rw [HK.out]; first | done | rfl, b_alloc (b_call hb1 hb2) _⟩
      | false =>
        rw [hs, if_neg (by simp)] at hk
        have HK := Lib.hid hk; clear hk hp hn hb x1 x2
        go_enter Try.func39, Try.ntmps39
        go_wp2_with fail
        refine (rbits_any _ _).mono ?_
        rintro e w1 ⟨rfl, hb1⟩
        rw [hc.out]
        go_wp2_with fail
        refine (of_any _ _).mono ?_
        rintro e w2 ⟨rfl, hb2⟩
        go_wp2_with fail
        go_ret
        exact ⟨by rw [HK.out]; first | done | rfl, b_alloc (b_call hb1 hb2) _⟩
    · rw [show (if expI b = 0 ∧ frcI b = 0 then (4 : Int) else if expI b = 2047 then 6 else 5) = 5 by rw [if_neg (fun h => x2 h.2), if_neg (by omega)]] at hk
      cases hs : negI b with
      | true =>
        rw [hs, if_pos rfl] at hk
        have HK := Lib.hid hk; clear hk hp hn hb x1 x2
        go_enter Try.func39, Try.ntmps39
        go_wp2_with fail
        refine (rbits_any _ _).mono ?_
        rintro e w1 ⟨rfl, hb1⟩
        rw [hc.out]
        go_wp2_with fail
        refine (of_any _ _).mono ?_
        rintro e w2 ⟨rfl, hb2⟩
        go_wp2_with fail
        go_ret
        exact ⟨by rw [HK.out]; first | done | rfl, b_alloc (b_call hb1 hb2) _⟩
      | false =>
        rw [hs, if_neg (by simp)] at hk
        have HK := Lib.hid hk; clear hk hp hn hb x1 x2
        go_enter Try.func39, Try.ntmps39
        go_wp2_with fail
        refine (rbits_any _ _).mono ?_
        rintro e w1 ⟨rfl, hb1⟩
        rw [hc.out]
        go_wp2_with fail
        refine (of_any _ _).mono ?_
        rintro e w2 ⟨rfl, hb2⟩
        go_wp2_with fail
        go_ret
        exact ⟨by rw [HK.out]; first | done | rfl, b_alloc (b_call hb1 hb2) _⟩
    · rw [show (if expI b = 0 ∧ frcI b = 0 then (4 : Int) else if expI b = 2047 then 6 else 5) = 5 by rw [if_neg (fun h => x1 h.1), if_neg x2]] at hk
      cases hs : negI b with
      | true =>
        rw [hs, if_pos rfl] at hk
        have HK := Lib.hid hk; clear hk hp hn hb x1 x2
        go_enter Try.func39, Try.ntmps39
        go_wp2_with fail
        refine (rbits_any _ _).mono ?_
        rintro e w1 ⟨rfl, hb1⟩
        rw [hc.out]
        go_wp2_with fail
        refine (of_any _ _).mono ?_
        rintro e w2 ⟨rfl, hb2⟩
        go_wp2_with fail
        go_ret
        exact ⟨by rw [HK.out]; first | done | rfl, b_alloc (b_call hb1 hb2) _⟩
      | false =>
        rw [hs, if_neg (by simp)] at hk
        have HK := Lib.hid hk; clear hk hp hn hb x1 x2
        go_enter Try.func39, Try.ntmps39
        go_wp2_with fail
        refine (rbits_any _ _).mono ?_
        rintro e w1 ⟨rfl, hb1⟩
        rw [hc.out]
        go_wp2_with fail
        refine (of_any _ _).mono ?_
        rintro e w2 ⟨rfl, hb2⟩
        go_wp2_with fail
        go_ret
        exact ⟨by rw [HK.out]; first | done | rfl, b_alloc (b_call hb1 hb2) _⟩
theorem less_any (a b : Nat) (w : World) : Calls Try.prog 49 #[.float .f64 a, .float .f64 b] w fun e w' => e = .returned (.bool (ltB a b)) ∧ w = w' := by
  go_enter Try.func49, Try.ntmps49
  go_wp2_with fail
  go_ret
  exact ⟨by rw [lt_spell]; first | done | rfl, rfl⟩
theorem equal_any (a b : Nat) (w : World) : Calls Try.prog 50 #[.float .f64 a, .float .f64 b] w fun e w' => e = .returned (.bool (eqB a b)) ∧ w = w' := by
  go_enter Try.func50, Try.ntmps50
  go_wp2_with fail
  go_ret
  exact ⟨by rw [eq_spell]; first | done | rfl, rfl⟩
theorem isNaN_any (x : Int) (w : World) : Calls Try.prog 55 #[.int .i64 x] w fun e w' => e = .returned (.bool false) ∧ w = w' := by
  have h : (x != x) = false := by simp
  go_enter Try.func55, Try.ntmps55
  go_wp2_with fail
  go_ret
  exact ⟨by simp, rfl⟩
def cmpI (x y : Int) : Int := if x < y then -1 else if y < x then 1 else 0
theorem cmp_any (x y : Int) (w : World) : Calls Try.prog 45 #[.int .i64 x, .int .i64 y] w fun e w' => e = .returned (.int .i64 (cmpI x y)) ∧ w = w' := by
  rcases Int.lt_trichotomy x y with h | h | h
  · have H : Hid (cmpI x y = -1) := Lib.hid (by unfold cmpI; rw [if_pos h])
    go_enter Try.func45, Try.ntmps45
    go_wp2_with (go_at_call 55; refine (isNaN_any _ _).mono ?_; rintro e w1 ⟨rfl, rfl⟩)
    go_ret
    exact ⟨by rw [H.out]; first | done | rfl, rfl⟩
  · have H : Hid (cmpI x y = 0) := Lib.hid (by unfold cmpI; rw [if_neg (by omega), if_neg (by omega)])
    have h1 : decide (x < y) = false := by rw [decide_eq_false_iff_not]; omega
    have h2 : decide (y < x) = false := by rw [decide_eq_false_iff_not]; omega
    clear h
    go_enter Try.func45, Try.ntmps45
    go_wp2_with (go_at_call 55; refine (isNaN_any _ _).mono ?_; rintro e w1 ⟨rfl, rfl⟩)
    go_ret
    exact ⟨by rw [H.out]; first | done | rfl, rfl⟩
  · have H : Hid (cmpI x y = 1) := Lib.hid (by unfold cmpI; rw [if_neg (by omega), if_pos h])
    have h1 : decide (x < y) = false := by rw [decide_eq_false_iff_not]; omega
    go_enter Try.func45, Try.ntmps45
    go_wp2_with (go_at_call 55; refine (isNaN_any _ _).mono ?_; rintro e w1 ⟨rfl, rfl⟩)
    go_ret
    exact ⟨by rw [H.out]; first | done | rfl, rfl⟩
theorem kind_any (b : Nat) (w : World) (hb : b < 18446744073709551616) : Calls Try.prog 27 #[.float .f64 b] w fun e w' => e = .returned (.int .i64 (kindO b)) ∧ w = w' := by
  cases hn : isNan b with
  | true =>
    have hk : Hid (kindO b = 0) := Lib.hid (by unfold kindO; rw [hn]; rfl)
    have h := ne_spell b
    rw [hn] at h
    clear hn hb
    go_enter Try.func27, Try.ntmps27
    go_wp2_with fail
    go_ret
    exact ⟨by rw [hk.out]; first | done | rfl, rfl⟩
  | false =>
    have h := ne_spell b
    have t1 := lt_low hn
    have t2 := lt_null hn
    have t3 := gt_high hn
    have t4 := gt_null hn
    have hk := kindO_of hn
    rw [hn] at h
    by_cases h1 : key b < -mostW
    · rw [if_pos h1] at hk
      rw [decide_eq_true h1] at t1
      have HK := Lib.hid hk; clear hk hn hb t2 t3 t4 h1
      go_enter Try.func27, Try.ntmps27
      go_wp2_with fail
      go_ret
      exact ⟨by rw [HK.out]; first | done | rfl, rfl⟩
    · rw [if_neg h1] at hk
      rw [decide_eq_false h1] at t1
      by_cases h2 : key b < 0
      · rw [if_pos h2] at hk
        rw [decide_eq_true h2] at t2
        have HK := Lib.hid hk; clear hk hn hb t3 t4 h1 h2
        go_enter Try.func27, Try.ntmps27
        go_wp2_with fail
        go_ret
        exact ⟨by rw [HK.out]; first | done | rfl, rfl⟩
      · rw [if_neg h2] at hk
        rw [decide_eq_false h2] at t2
        by_cases h3 : mostW < key b
        · rw [if_pos h3] at hk
          rw [decide_eq_true h3] at t3
          have HK := Lib.hid hk; clear hk hn hb t4 h1 h2 h3
          go_enter Try.func27, Try.ntmps27
          go_wp2_with fail
          go_ret
          exact ⟨by rw [HK.out]; first | done | rfl, rfl⟩
        · rw [if_neg h3] at hk
          rw [decide_eq_false h3] at t3
          by_cases h4 : 0 < key b
          · rw [if_pos h4] at hk
            rw [decide_eq_true h4] at t4
            have HK := Lib.hid hk; clear hk hn hb h1 h2 h3 h4
            go_enter Try.func27, Try.ntmps27
            go_wp2_with fail
            go_ret
            exact ⟨by rw [HK.out]; first | done | rfl, rfl⟩
          · rw [if_neg h4] at hk
            rw [decide_eq_false h4] at t4
            by_cases h5 : b = topW
            · rw [if_pos h5] at hk
              have t5 := top_yes h5
              have HK := Lib.hid hk; clear hk hn hb h1 h2 h3 h4 h5
              go_enter Try.func27, Try.ntmps27
              go_wp2_with fail
              go_ret
              exact ⟨by rw [HK.out]; first | done | rfl, rfl⟩
            · rw [if_neg h5] at hk
              have t5 := top_no h5
              have HK := Lib.hid hk; clear hk hn hb h1 h2 h3 h4 h5
              go_enter Try.func27, Try.ntmps27
              go_wp2_with fail
              go_ret
              exact ⟨by rw [HK.out]; first | done | rfl, rfl⟩
end Go.Proofs.Ytgiegfgoglhnoaa
