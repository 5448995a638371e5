/- Layer 23: values made and read, and arithmetic of floats. Conditions: words have 64 bits. -/
import Derived.Test.YtgiegfgoglhnoaaVal2
namespace Go.Proofs.Ytgiegfgoglhnoaa
open Go.RowKit
set_option linter.unusedVariables false
set_option linter.unusedSimpArgs false
/-- A value: its kind and its bits. -/
def valV (k b : Int) : Value := .agg #[.int .i64 k, .int .u64 b]
def arithN (o : BinOp) (x y : Nat) : Nat := match floatBits o .f64 x y with | some r => canon r | none => nanW
theorem drewN_0 (w : World) : w.drewN 0 = w := rfl
theorem run_arith {P : Program} (o : BinOp) (ho : o = .add ∨ o = .sub ∨ o = .mul ∨ o = .quo) (ty : TypeId) (x y : Nat) (w : World) : ∃ r k, (binOp o ty (.float .f64 x) (.float .f64 y)).run P w = .ok (.float .f64 r) (w.drewN k) ∧ canon r = arithN o x y := by
  cases h : floatBits o .f64 x y with
  | some r => exact ⟨r, 0, run_float_arith w o ty .f64 x y r h, by unfold arithN; rw [h]⟩
  | none =>
    have hn : ∀ t, isNan (Question.cut (.nanBits .f64 x y) t) = true := fun t => by
      show isNan ((t % 2) * 2 ^ 63 + 0x7ff0000000000000 + 1 + (t / 2) % (2 ^ 52 - 1)) = true
      unfold isNan infW topW
      rw [decide_eq_true_iff]
      have h1 : t % 2 < 2 := Nat.mod_lt _ (by decide)
      have h2 : t / 2 % (2 ^ 52 - 1) < 2 ^ 52 - 1 := Nat.mod_lt _ (by decide)
      generalize t % 2 = q at *
      generalize t / 2 % (2 ^ 52 - 1) = s at *
      rcases (show q = 0 ∨ q = 1 by omega) with rfl | rfl <;> omega
    refine ⟨Question.cut (.nanBits .f64 x y) (w.tape w.drawn (.nanBits .f64 x y)), 1, ?_, by unfold arithN; rw [h, canon_nan (hn _)]⟩
    unfold floatBits at h
    rcases ho with rfl | rfl | rfl | rfl
    all_goals
      simp only at h
      simp [binOp, Op.floatArith, h, choose, Sem.run, Question.forced, World.drewN]
theorem ofInt_any (i : Int) (w : World) : Calls Try.prog 17 #[.int .i64 i] w fun e w' => e = .returned (valV 0 (IntKind.u64.wrap i)) ∧ Below w.heap.size w w' := by
  go_enter Try.func17, Try.ntmps17
  go_wp2_with fail
  exact bodyPost_ret (v := valV 0 (IntKind.u64.wrap i)) (by simp [results, Try.results17, go_sem, valV]) rfl ⟨rfl, by (repeat' (first | exact Below.refl _ _ | assumption | refine b_alloc ?_ _ | refine b_over ?_ _ | refine b_drew ?_ | refine b_call ?_ (by assumption)))⟩
theorem ofFloat_any (b : Nat) (w : World) : Calls Try.prog 20 #[.float .f64 b] w fun e w' => e = .returned (valV 1 (canon b : Nat)) ∧ Below w.heap.size w w' := by
  go_enter Try.func20, Try.ntmps20
  go_wp2_with fail
  refine (bits_any _ _).mono ?_
  rintro e w1 ⟨rfl, rfl⟩
  go_wp2_with fail
  exact bodyPost_ret (v := valV 1 (canon b : Nat)) (by simp [results, Try.results20, go_sem, valV]) rfl ⟨rfl, by (repeat' (first | exact Below.refl _ _ | assumption | refine b_alloc ?_ _ | refine b_over ?_ _ | refine b_drew ?_ | refine b_call ?_ (by assumption)))⟩
theorem int64_any (k b : Int) (w : World) : Calls Try.prog 23 #[valV k b] w fun e w' => e = .returned (.int .i64 (wrap64 b)) ∧ Below w.heap.size w w' := by
  unfold valV
  go_enter Try.func23, Try.ntmps23
  go_wp2_with fail
  go_ret
  exact ⟨rfl, by (repeat' (first | exact Below.refl _ _ | assumption | refine b_alloc ?_ _ | refine b_over ?_ _ | refine b_drew ?_ | refine b_call ?_ (by assumption)))⟩
theorem float64_any (k : Int) (b : Nat) (w : World) : Calls Try.prog 24 #[valV k (b : Nat)] w fun e w' => e = .returned (.float .f64 (canon b)) ∧ Below w.heap.size w w' := by
  unfold valV
  go_enter Try.func24, Try.ntmps24
  go_wp2_with fail
  refine (float_any _ _).mono ?_
  rintro e w1 ⟨rfl, rfl⟩
  go_wp2_with fail
  go_ret
  exact ⟨rfl, by (repeat' (first | exact Below.refl _ _ | assumption | refine b_alloc ?_ _ | refine b_over ?_ _ | refine b_drew ?_ | refine b_call ?_ (by assumption)))⟩
theorem zero_any (k : Int) (w : World) : Calls Try.prog 25 #[.int .i64 k] w fun e w' => e = .returned (valV k 0) ∧ Below w.heap.size w w' := by
  go_enter Try.func25, Try.ntmps25
  go_wp2_with fail
  exact bodyPost_ret (v := valV k 0) (by simp [results, Try.results25, go_sem, valV]) rfl ⟨rfl, by (repeat' (first | exact Below.refl _ _ | assumption | refine b_alloc ?_ _ | refine b_over ?_ _ | refine b_drew ?_ | refine b_call ?_ (by assumption)))⟩
theorem ours23_any (k b : Int) (w : World) : Calls Try.prog 11 #[valV k b] w fun e w' => e = .returned (valV k b) ∧ Below w.heap.size w w' := by
  unfold valV
  go_enter Try.func11, Try.ntmps11
  go_wp2_with fail
  exact bodyPost_ret (v := valV k b) (by simp [results, Try.results11, go_sem, valV]) rfl ⟨rfl, by (repeat' (first | exact Below.refl _ _ | assumption | refine b_alloc ?_ _ | refine b_over ?_ _ | refine b_drew ?_ | refine b_call ?_ (by assumption)))⟩
def truthI : Bool → Int
  | true => 1
  | false => 0
theorem truth_any (q : Bool) (w : World) : Calls Try.prog 46 #[.bool q] w fun e w' => e = .returned (valV 0 (truthI q)) ∧ Below w.heap.size w w' := by
  cases q with
  | true =>
    go_enter Try.func46, Try.ntmps46
    go_wp2_with fail
    refine (ofInt_any _ _).mono ?_
    rintro e w1 ⟨rfl, hb1⟩
    obtain ⟨c0, c1, cf⟩ := blk2 (blk_born hb1)
    unfold valV
    go_wp2_with fail
    exact bodyPost_ret (v := valV 0 1) (by simp [results, Try.results46, go_sem, valV, c0, c1, cf]) rfl ⟨rfl, b_set (b_set (b_call (b_alloc (Below.refl _ _) _) hb1) (Nat.le_refl _) _) (Nat.le_refl _) _⟩
  | false =>
    go_enter Try.func46, Try.ntmps46
    go_wp2_with fail
    refine (ofInt_any _ _).mono ?_
    rintro e w1 ⟨rfl, hb1⟩
    obtain ⟨c0, c1, cf⟩ := blk2 (blk_born hb1)
    unfold valV
    go_wp2_with fail
    exact bodyPost_ret (v := valV 0 0) (by simp [results, Try.results46, go_sem, valV, c0, c1, cf]) rfl ⟨rfl, b_set (b_set (b_call (b_alloc (Below.refl _ _) _) hb1) (Nat.le_refl _) _) (Nat.le_refl _) _⟩
theorem one_any (q : Bool) (w : World) : Calls Try.prog 33 #[.bool q] w fun e w' => e = .returned (.int .u64 (truthI q)) ∧ w = w' := by
  cases q with
  | true =>
    go_enter Try.func33, Try.ntmps33
    go_wp2_with fail
    go_ret
    exact ⟨rfl, rfl⟩
  | false =>
    go_enter Try.func33, Try.ntmps33
    go_wp2_with fail
    go_ret
    exact ⟨rfl, rfl⟩
def takesO (op : Int) : Int := if op < 0 ∨ 19 < op then -1 else if op < 12 then 0 else 1
def givesO (op : Int) : Int := if takesO op = 1 ∧ op ≠ 16 ∧ op ≠ 17 then 1 else 0
theorem op_cases (op : Int) : op < 0 ∨ 19 < op ∨ (0 ≤ op ∧ op < 12) ∨ op = 16 ∨ op = 17 ∨ (12 ≤ op ∧ op ≤ 19 ∧ op ≠ 16 ∧ op ≠ 17) := by omega
theorem takes_any (op : Int) (w : World) : Calls Try.prog 14 #[.int .i64 op] w fun e w' => e = .returned (.int .i64 (takesO op)) ∧ w = w' := by
  have H : Hid (takesO op = if op < 0 ∨ 19 < op then -1 else if op < 12 then 0 else 1) := Lib.hid rfl
  rcases (show op < 0 ∨ (0 ≤ op ∧ 19 < op) ∨ (0 ≤ op ∧ op < 12 ∧ op ≤ 19) ∨ (0 ≤ op ∧ op ≤ 19 ∧ 12 ≤ op) by omega) with h | ⟨h, h'⟩ | ⟨h, h', h''⟩ | ⟨h, h', h''⟩
  all_goals
    go_enter Try.func14, Try.ntmps14
    go_wp2_with fail
    all_goals go_ret
    all_goals refine ⟨?_, rfl⟩
    all_goals (rw [H.out]; first | (rw [if_pos (by omega)]; rfl) | (rw [if_neg (by omega), if_pos (by omega)]; rfl) | (rw [if_neg (by omega), if_neg (by omega)]; rfl))
theorem gives_any (op : Int) (w : World) : Calls Try.prog 15 #[.int .i64 op] w fun e w' => e = .returned (.int .i64 (givesO op)) ∧ w = w' := by
  have H : Hid (givesO op = if takesO op = 1 ∧ op ≠ 16 ∧ op ≠ 17 then 1 else 0) := Lib.hid rfl
  cases ht : (takesO op == 1) with
  | false =>
    have H2 : Hid (givesO op = 0) := Lib.hid (by rw [H.out, if_neg (fun h => by rw [h.1] at ht; cases ht)])
    go_enter Try.func15, Try.ntmps15
    go_wp2_with fail
    refine (takes_any _ _).mono ?_
    rintro e w1 ⟨rfl, rfl⟩
    go_wp2_with fail
    go_ret
    exact ⟨by rw [H2.out]; first | done | rfl, rfl⟩
  | true =>
    have ht' := eq_of_beq ht
    by_cases h16 : op = 16
    · subst h16
      have H2 : Hid (givesO 16 = 0) := Lib.hid (by decide)
      clear ht'
      go_enter Try.func15, Try.ntmps15
      go_wp2_with fail
      refine (takes_any _ _).mono ?_
      rintro e w1 ⟨rfl, rfl⟩
      go_wp2_with fail
      go_ret
      exact ⟨by rw [H2.out]; first | done | rfl, rfl⟩
    · by_cases h17 : op = 17
      · subst h17
        have H2 : Hid (givesO 17 = 0) := Lib.hid (by decide)
        clear ht'
        go_enter Try.func15, Try.ntmps15
        go_wp2_with fail
        refine (takes_any _ _).mono ?_
        rintro e w1 ⟨rfl, rfl⟩
        go_wp2_with fail
        go_ret
        exact ⟨by rw [H2.out]; first | done | rfl, rfl⟩
      · have H2 : Hid (givesO op = 1) := Lib.hid (by rw [H.out, if_pos ⟨ht', h16, h17⟩])
        have n16 : (op != 16) = true := by rw [bne_iff_ne]; exact h16
        have n17 : (op != 17) = true := by rw [bne_iff_ne]; exact h17
        clear ht' h16 h17
        go_enter Try.func15, Try.ntmps15
        go_wp2_with fail
        refine (takes_any _ _).mono ?_
        rintro e w1 ⟨rfl, rfl⟩
        go_wp2_with fail
        go_ret
        exact ⟨by rw [H2.out]; first | done | rfl, rfl⟩
theorem bkinds_any (op : Int) (w : World) : Calls Try.prog 13 #[.int .i64 op] w fun e w' => e = .returned (.tuple #[.int .i64 (if takesO op = 1 then 1 else 0), .int .i64 (givesO op), .bool (decide (0 ≤ takesO op))]) ∧ w = w' := by
  have HT : Hid (takesO op = if op < 0 ∨ 19 < op then -1 else if op < 12 then 0 else 1) := Lib.hid rfl
  have HG : Hid (givesO op = if takesO op = 1 ∧ op ≠ 16 ∧ op ≠ 17 then 1 else 0) := Lib.hid rfl
  rcases op_cases op with h | h | ⟨h, h'⟩ | rfl | rfl | ⟨h, h', h1, h2⟩
  · have E1 : takesO op = -1 := by rw [HT.out, if_pos (Or.inl h)]
    have E2 : givesO op = 0 := by rw [HG.out, E1]; rfl
    rw [E1, E2]; clear E1 E2
    go_enter Try.func13, Try.ntmps13
    go_wp2_with fail
    go_ret3
    exact ⟨rfl, rfl⟩
  · have E1 : takesO op = -1 := by rw [HT.out, if_pos (Or.inr h)]
    have E2 : givesO op = 0 := by rw [HG.out, E1]; rfl
    rw [E1, E2]; clear E1 E2
    have h0 : decide (op < 0) = false := by rw [decide_eq_false_iff_not]; omega
    have h20 : (20 : Int) ≤ op := by omega
    clear h
    go_enter Try.func13, Try.ntmps13
    go_wp2_with fail
    go_ret3
    exact ⟨rfl, rfl⟩
  · have E1 : takesO op = 0 := by rw [HT.out, if_neg (by omega), if_pos (by omega)]
    have E2 : givesO op = 0 := by rw [HG.out, E1]; rfl
    rw [E1, E2]; clear E1 E2
    have h20 : op < 20 := by omega
    go_enter Try.func13, Try.ntmps13
    go_wp2_with fail
    go_ret3
    exact ⟨rfl, rfl⟩
  · go_enter Try.func13, Try.ntmps13
    go_wp2_with fail
    go_ret3
    exact ⟨rfl, rfl⟩
  · go_enter Try.func13, Try.ntmps13
    go_wp2_with fail
    go_ret3
    exact ⟨rfl, rfl⟩
  · have E1 : takesO op = 1 := by rw [HT.out, if_neg (by omega), if_neg (by omega)]
    have E2 : givesO op = 1 := by rw [HG.out, if_pos ⟨E1, h1, h2⟩]
    rw [E1, E2]; clear E1 E2
    have g0 : (0 : Int) ≤ op := by omega
    have g20 : op < 20 := by omega
    have n16 : (op == 16) = false := beq_false_of_ne h1
    have n17 : (op == 17) = false := beq_false_of_ne h2
    clear h1 h2
    go_enter Try.func13, Try.ntmps13
    go_wp2_with fail
    go_ret3
    exact ⟨rfl, rfl⟩
end Go.Proofs.Ytgiegfgoglhnoaa
