/- Layer 26: what operations take and give; what a shape takes: the program's and the document's. No conditions. -/
import Derived.Test.YtdmidnmciaediaaZEq25
namespace Go.Proofs.Ytdmidnmciaediaa
open Go.RowKit
set_option linter.unusedVariables false
set_option linter.unusedSimpArgs false
attribute [local go_sem] over_cell over_frozen
def takesO (op : Int) : Int := if op < 0 ∨ 19 < op then -1 else if op < 12 then 0 else 1
def givesO (op : Int) : Int := if takesO op = 1 ∧ op ≠ 16 ∧ op ≠ 17 then 1 else 0
theorem op_cases (op : Int) : op < 0 ∨ 19 < op ∨ (0 ≤ op ∧ op < 12) ∨ op = 16 ∨ op = 17 ∨ (12 ≤ op ∧ op ≤ 19 ∧ op ≠ 16 ∧ op ≠ 17) := by omega
theorem takes_any (op : Int) (w : World) : Calls Try.prog 104 #[.int .i64 op] w fun e w' => e = .returned (.int .i64 (takesO op)) ∧ w = w' := by
  have H : Hid (takesO op = if op < 0 ∨ 19 < op then -1 else if op < 12 then 0 else 1) := Lib.hid rfl
  rcases (show op < 0 ∨ (0 ≤ op ∧ 19 < op) ∨ (0 ≤ op ∧ op < 12 ∧ op ≤ 19) ∨ (0 ≤ op ∧ op ≤ 19 ∧ 12 ≤ op) by omega) with h | ⟨h, h'⟩ | ⟨h, h', h''⟩ | ⟨h, h', h''⟩
  all_goals
    go_enter Try.func104, Try.ntmps104
    go_wp2_with fail
    all_goals go_ret
    all_goals refine ⟨?_, rfl⟩
    all_goals (rw [H.out]; first | (rw [if_pos (by omega)]; rfl) | (rw [if_neg (by omega), if_pos (by omega)]; rfl) | (rw [if_neg (by omega), if_neg (by omega)]; rfl))
theorem gives_any (op : Int) (w : World) : Calls Try.prog 105 #[.int .i64 op] w fun e w' => e = .returned (.int .i64 (givesO op)) ∧ w = w' := by
  have H : Hid (givesO op = if takesO op = 1 ∧ op ≠ 16 ∧ op ≠ 17 then 1 else 0) := Lib.hid rfl
  cases ht : (takesO op == 1) with
  | false =>
    have H2 : Hid (givesO op = 0) := Lib.hid (by rw [H.out, if_neg (fun h => by rw [h.1] at ht; cases ht)])
    go_enter Try.func105, Try.ntmps105
    go_wp2_with fail
    refine (takes_any _ _).mono ?_
    rintro e w1 ⟨rfl, rfl⟩
    go_wp2_with fail
    go_ret
    exact ⟨by rw [H2.out]; first | done | rfl, rfl⟩
  | true =>
    have ht' := eq_of_beq ht
    by_cases h16 : op = 16
    · subst h16
      have H2 : Hid (givesO 16 = 0) := Lib.hid (by decide)
      clear ht'
      go_enter Try.func105, Try.ntmps105
      go_wp2_with fail
      refine (takes_any _ _).mono ?_
      rintro e w1 ⟨rfl, rfl⟩
      go_wp2_with fail
      go_ret
      exact ⟨by rw [H2.out]; first | done | rfl, rfl⟩
    · by_cases h17 : op = 17
      · subst h17
        have H2 : Hid (givesO 17 = 0) := Lib.hid (by decide)
        clear ht'
        go_enter Try.func105, Try.ntmps105
        go_wp2_with fail
        refine (takes_any _ _).mono ?_
        rintro e w1 ⟨rfl, rfl⟩
        go_wp2_with fail
        go_ret
        exact ⟨by rw [H2.out]; first | done | rfl, rfl⟩
      · have H2 : Hid (givesO op = 1) := Lib.hid (by rw [H.out, if_pos ⟨ht', h16, h17⟩])
        have n16 : (op != 16) = true := by rw [bne_iff_ne]; exact h16
        have n17 : (op != 17) = true := by rw [bne_iff_ne]; exact h17
        clear ht' h16 h17
        go_enter Try.func105, Try.ntmps105
        go_wp2_with fail
        refine (takes_any _ _).mono ?_
        rintro e w1 ⟨rfl, rfl⟩
        go_wp2_with fail
        go_ret
        exact ⟨by rw [H2.out]; first | done | rfl, rfl⟩
theorem bkinds_any (op : Int) (w : World) : Calls Try.prog 141 #[.int .i64 op] w fun e w' => e = .returned (.tuple #[.int .i64 (if takesO op = 1 then 1 else 0), .int .i64 (givesO op), .bool (decide (0 ≤ takesO op))]) ∧ w = w' := by
  have HT : Hid (takesO op = if op < 0 ∨ 19 < op then -1 else if op < 12 then 0 else 1) := Lib.hid rfl
  have HG : Hid (givesO op = if takesO op = 1 ∧ op ≠ 16 ∧ op ≠ 17 then 1 else 0) := Lib.hid rfl
  rcases op_cases op with h | h | ⟨h, h'⟩ | rfl | rfl | ⟨h, h', h1, h2⟩
  · have E1 : takesO op = -1 := by rw [HT.out, if_pos (Or.inl h)]
    have E2 : givesO op = 0 := by rw [HG.out, E1]; rfl
    rw [E1, E2]; clear E1 E2
    go_enter Try.func141, Try.ntmps141
    go_wp2_with fail
    go_ret3
    exact ⟨rfl, rfl⟩
  · have E1 : takesO op = -1 := by rw [HT.out, if_pos (Or.inr h)]
    have E2 : givesO op = 0 := by rw [HG.out, E1]; rfl
    rw [E1, E2]; clear E1 E2
    have h0 : decide (op < 0) = false := by rw [decide_eq_false_iff_not]; omega
    have h20 : (20 : Int) ≤ op := by omega
    clear h
    go_enter Try.func141, Try.ntmps141
    go_wp2_with fail
    go_ret3
    exact ⟨rfl, rfl⟩
  · have E1 : takesO op = 0 := by rw [HT.out, if_neg (by omega), if_pos (by omega)]
    have E2 : givesO op = 0 := by rw [HG.out, E1]; rfl
    rw [E1, E2]; clear E1 E2
    have h20 : op < 20 := by omega
    go_enter Try.func141, Try.ntmps141
    go_wp2_with fail
    go_ret3
    exact ⟨rfl, rfl⟩
  · go_enter Try.func141, Try.ntmps141
    go_wp2_with fail
    go_ret3
    exact ⟨rfl, rfl⟩
  · go_enter Try.func141, Try.ntmps141
    go_wp2_with fail
    go_ret3
    exact ⟨rfl, rfl⟩
  · have E1 : takesO op = 1 := by rw [HT.out, if_neg (by omega), if_neg (by omega)]
    have E2 : givesO op = 1 := by rw [HG.out, if_pos ⟨E1, h1, h2⟩]
    rw [E1, E2]; clear E1 E2
    have g0 : (0 : Int) ≤ op := by omega
    have g20 : op < 20 := by omega
    have n16 : (op == 16) = false := beq_false_of_ne h1
    have n17 : (op == 17) = false := beq_false_of_ne h2
    clear h1 h2
    go_enter Try.func141, Try.ntmps141
    go_wp2_with fail
    go_ret3
    exact ⟨rfl, rfl⟩
def utO (op : Int) : Int := if op < 0 ∨ 7 < op then -1 else if op = 2 ∨ op = 3 ∨ op = 5 ∨ op = 6 then 1 else 0
def ugO (op : Int) : Int := if op = 2 ∨ op = 3 ∨ op = 4 ∨ op = 7 then 1 else 0
theorem un_cases (op : Int) : op < 0 ∨ 7 < op ∨ op = 0 ∨ op = 1 ∨ op = 2 ∨ op = 3 ∨ op = 4 ∨ op = 5 ∨ op = 6 ∨ op = 7 := by omega
theorem utO_no {op : Int} (h : op < 0 ∨ 7 < op) : utO op = -1 := by unfold utO; rw [if_pos h]
theorem ugO_no {op : Int} (h : op < 0 ∨ 7 < op) : ugO op = 0 := by unfold ugO; rw [if_neg (by omega)]
set_option maxHeartbeats 2000000 in
theorem utakes_any (op : Int) (w : World) : Calls Try.prog 102 #[.int .i64 op] w fun e w' => e = .returned (.int .i64 (utO op)) ∧ Below w.heap.size w w' := by
  rcases un_cases op with h | h | rfl | rfl | rfl | rfl | rfl | rfl | rfl | rfl
  case inl =>
    rw [utO_no (Or.inl h)]
    go_enter Try.func102, Try.ntmps102
    go_wp2_with fail
    go_ret
    exact ⟨rfl, by (repeat' (first | exact Below.refl _ _ | assumption | refine b_alloc ?_ _ | refine b_over ?_ _ | refine b_drew ?_ | refine b_call ?_ (by assumption)))⟩
  case inr.inl =>
    have h0 : decide (op < 0) = false := by rw [decide_eq_false_iff_not]; omega
    rw [utO_no (Or.inr h)]
    clear h0
    have h0 : ¬ (op < 0) := by omega
    go_enter Try.func102, Try.ntmps102
    go_wp2_with fail
    go_ret
    exact ⟨rfl, by (repeat' (first | exact Below.refl _ _ | assumption | refine b_alloc ?_ _ | refine b_over ?_ _ | refine b_drew ?_ | refine b_call ?_ (by assumption)))⟩
  all_goals
    go_enter Try.func102, Try.ntmps102
    go_wp2_with fail
    go_ret
    exact ⟨rfl, by (repeat' (first | exact Below.refl _ _ | assumption | refine b_alloc ?_ _ | refine b_over ?_ _ | refine b_drew ?_ | refine b_call ?_ (by assumption)))⟩
set_option maxHeartbeats 2000000 in
theorem ugives_any (op : Int) (w : World) : Calls Try.prog 103 #[.int .i64 op] w fun e w' => e = .returned (.int .i64 (ugO op)) ∧ Below w.heap.size w w' := by
  rcases un_cases op with h | h | rfl | rfl | rfl | rfl | rfl | rfl | rfl | rfl
  case inl =>
    rw [ugO_no (Or.inl h)]
    go_enter Try.func103, Try.ntmps103
    go_wp2_with fail
    go_ret
    exact ⟨rfl, by (repeat' (first | exact Below.refl _ _ | assumption | refine b_alloc ?_ _ | refine b_over ?_ _ | refine b_drew ?_ | refine b_call ?_ (by assumption)))⟩
  case inr.inl =>
    have h0 : decide (op < 0) = false := by rw [decide_eq_false_iff_not]; omega
    rw [ugO_no (Or.inr h)]
    clear h0
    have h0 : ¬ (op < 0) := by omega
    go_enter Try.func103, Try.ntmps103
    go_wp2_with fail
    go_ret
    exact ⟨rfl, by (repeat' (first | exact Below.refl _ _ | assumption | refine b_alloc ?_ _ | refine b_over ?_ _ | refine b_drew ?_ | refine b_call ?_ (by assumption)))⟩
  all_goals
    go_enter Try.func103, Try.ntmps103
    go_wp2_with fail
    go_ret
    exact ⟨rfl, by (repeat' (first | exact Below.refl _ _ | assumption | refine b_alloc ?_ _ | refine b_over ?_ _ | refine b_drew ?_ | refine b_call ?_ (by assumption)))⟩
theorem ukinds_any (op : Int) (w : World) : Calls Try.prog 140 #[.int .i64 op] w fun e w' => e = .returned (.tuple #[.int .i64 (if utO op = 1 then 1 else 0), .int .i64 (ugO op), .bool (decide (0 ≤ utO op))]) ∧ Below w.heap.size w w' := by
  rcases un_cases op with h | h | rfl | rfl | rfl | rfl | rfl | rfl | rfl | rfl
  case inl =>
    rw [utO_no (Or.inl h), ugO_no (Or.inl h)]
    have n0 : (op == 0) = false := by rw [beq_eq_false_iff_ne]; omega
    have n1 : (op == 1) = false := by rw [beq_eq_false_iff_ne]; omega
    have n2 : (op == 2) = false := by rw [beq_eq_false_iff_ne]; omega
    have n3 : (op == 3) = false := by rw [beq_eq_false_iff_ne]; omega
    have n4 : (op == 4) = false := by rw [beq_eq_false_iff_ne]; omega
    have n5 : (op == 5) = false := by rw [beq_eq_false_iff_ne]; omega
    have n6 : (op == 6) = false := by rw [beq_eq_false_iff_ne]; omega
    have n7 : (op == 7) = false := by rw [beq_eq_false_iff_ne]; omega
    go_enter Try.func140, Try.ntmps140
    go_wp2_with fail
    go_ret3
    exact ⟨rfl, by (repeat' (first | exact Below.refl _ _ | assumption | refine b_alloc ?_ _ | refine b_over ?_ _ | refine b_drew ?_ | refine b_call ?_ (by assumption)))⟩
  case inr.inl =>
    have h0 : decide (op < 0) = false := by rw [decide_eq_false_iff_not]; omega
    rw [utO_no (Or.inr h), ugO_no (Or.inr h)]
    have n0 : (op == 0) = false := by rw [beq_eq_false_iff_ne]; omega
    have n1 : (op == 1) = false := by rw [beq_eq_false_iff_ne]; omega
    have n2 : (op == 2) = false := by rw [beq_eq_false_iff_ne]; omega
    have n3 : (op == 3) = false := by rw [beq_eq_false_iff_ne]; omega
    have n4 : (op == 4) = false := by rw [beq_eq_false_iff_ne]; omega
    have n5 : (op == 5) = false := by rw [beq_eq_false_iff_ne]; omega
    have n6 : (op == 6) = false := by rw [beq_eq_false_iff_ne]; omega
    have n7 : (op == 7) = false := by rw [beq_eq_false_iff_ne]; omega
    clear h0
    have h0 : ¬ (op < 0) := by omega
    go_enter Try.func140, Try.ntmps140
    go_wp2_with fail
    go_ret3
    exact ⟨rfl, by (repeat' (first | exact Below.refl _ _ | assumption | refine b_alloc ?_ _ | refine b_over ?_ _ | refine b_drew ?_ | refine b_call ?_ (by assumption)))⟩
  all_goals
    go_enter Try.func140, Try.ntmps140
    go_wp2_with fail
    go_ret3
    exact ⟨rfl, by (repeat' (first | exact Below.refl _ _ | assumption | refine b_alloc ?_ _ | refine b_over ?_ _ | refine b_drew ?_ | refine b_call ?_ (by assumption)))⟩
def shp (r n : Int) : Value := .agg #[.int .i64 r, .int .i64 n]
def okS (r n : Int) : Bool := decide (0 ≤ r ∧ 0 ≤ n ∧ r + n ≤ 15)
def bytS (r n : Int) : Int := if okS r n = true then 8 + 8 * r + 8 * n else 0
theorem okS_no {r n : Int} (h : ¬ (0 ≤ r ∧ 0 ≤ n ∧ r + n ≤ 15)) : okS r n = false ∧ bytS r n = 0 := by
  have e : okS r n = false := decide_eq_false h
  exact ⟨e, by unfold bytS; rw [e]; rfl⟩
theorem okS_yes {r n : Int} (h : 0 ≤ r ∧ 0 ≤ n ∧ r + n ≤ 15) : okS r n = true ∧ bytS r n = 8 + 8 * r + 8 * n := by
  have e : okS r n = true := decide_eq_true h
  exact ⟨e, by unfold bytS; rw [e]; rfl⟩
theorem omay_any (r n : Int) (w : World) : Calls Try.prog 143 #[shp r n] w fun e w' => e = .returned (.bool (okS r n)) ∧ Below w.heap.size w w' := by
  unfold shp
  rcases (show r < 0 ∨ (0 ≤ r ∧ n < 0) ∨ (0 ≤ r ∧ 0 ≤ n ∧ 15 < r) ∨ (0 ≤ r ∧ 0 ≤ n ∧ r ≤ 15 ∧ 15 - r < n) ∨ (0 ≤ r ∧ 0 ≤ n ∧ r ≤ 15 ∧ n ≤ 15 - r) by omega) with q | ⟨q1, q⟩ | ⟨q1, q2, q⟩ | ⟨q1, q2, q3, q⟩ | ⟨q1, q2, q3, q⟩
  case inr.inr.inr.inr =>
    rw [show okS r n = true from decide_eq_true (by omega)]
    go_enter Try.func143, Try.ntmps143
    go_wp2_with fail
    go_ret
    exact ⟨rfl, by (repeat' (first | exact Below.refl _ _ | assumption | refine b_alloc ?_ _ | refine b_over ?_ _ | refine b_drew ?_ | refine b_call ?_ (by assumption)))⟩
  all_goals
    rw [show okS r n = false from decide_eq_false (by omega)]
    go_enter Try.func143, Try.ntmps143
    go_wp2_with fail
    go_ret
    exact ⟨by first | rfl | (show Ending.returned (.bool (decide (n ≤ 15 - r))) = _; rw [decide_eq_false (by omega)]), by (repeat' (first | exact Below.refl _ _ | assumption | refine b_alloc ?_ _ | refine b_over ?_ _ | refine b_drew ?_ | refine b_call ?_ (by assumption)))⟩
theorem obytes_any (r n : Int) (w : World) : Calls Try.prog 142 #[shp r n] w fun e w' => e = .returned (.tuple #[.int .i64 (bytS r n), .bool (okS r n)]) ∧ Below w.heap.size w w' := by
  have HM := Lib.hid (fun w => omay_any r n w)
  unfold shp at *
  by_cases h : 0 ≤ r ∧ 0 ≤ n ∧ r + n ≤ 15
  · rw [(okS_yes h).1, (okS_yes h).2]
    rw [(okS_yes h).1] at HM
    obtain ⟨h1, h2, h3⟩ := h
    have e1 : IntKind.i64.wrap (1 + r) = 1 + r := by rw [IntKind.wrap_i64]; omega
    go_enter Try.func142, Try.ntmps142
    go_wp2_with fail
    refine (HM.out _).mono ?_
    rintro e w1 ⟨rfl, hb1⟩
    obtain ⟨hc1, hf1⟩ := bcell hb1
    have hz1 := hb1.size
    simp only [World.size_alloc] at hz1
    go_wp2_with fail
    go_ret2
    exact ⟨by show Ending.returned (.tuple #[.int .i64 (8 * (1 + r + n)), .bool true]) = _; rw [show 8 * (1 + r + n) = 8 + 8 * r + 8 * n by omega], by (repeat' (first | exact Below.refl _ _ | assumption | refine b_alloc ?_ _ | refine b_over ?_ _ | refine b_drew ?_ | refine b_call ?_ (by assumption)))⟩
  · rw [(okS_no h).1, (okS_no h).2]
    rw [(okS_no h).1] at HM
    clear h
    go_enter Try.func142, Try.ntmps142
    go_wp2_with fail
    refine (HM.out _).mono ?_
    rintro e w1 ⟨rfl, hb1⟩
    go_wp2_with fail
    go_ret2
    exact ⟨rfl, by (repeat' (first | exact Below.refl _ _ | assumption | refine b_alloc ?_ _ | refine b_over ?_ _ | refine b_drew ?_ | refine b_call ?_ (by assumption)))⟩
theorem rshp_any (r n : Int) (w : World) : Calls Try.prog 107 #[shp r n] w fun e w' => e = .returned (.int .i64 (bytS r n)) ∧ Below w.heap.size w w' := by
  unfold shp
  rcases (show r < 0 ∨ (0 ≤ r ∧ n < 0) ∨ (0 ≤ r ∧ 0 ≤ n ∧ 15 < r) ∨ (0 ≤ r ∧ 0 ≤ n ∧ r ≤ 15 ∧ 15 < n) ∨ (0 ≤ r ∧ 0 ≤ n ∧ r ≤ 15 ∧ n ≤ 15 ∧ 15 < r + n) ∨ (0 ≤ r ∧ 0 ≤ n ∧ r ≤ 15 ∧ n ≤ 15 ∧ r + n ≤ 15) by omega) with q | ⟨q1, q⟩ | ⟨q1, q2, q⟩ | ⟨q1, q2, q3, q⟩ | ⟨q1, q2, q3, q4, q⟩ | ⟨q1, q2, q3, q4, q⟩
  case inr.inr.inr.inr.inr =>
    rw [(okS_yes ⟨q1, q2, q⟩).2]
    go_enter Try.func107, Try.ntmps107
    go_wp2_with fail
    go_ret
    exact ⟨rfl, by (repeat' (first | exact Below.refl _ _ | assumption | refine b_alloc ?_ _ | refine b_over ?_ _ | refine b_drew ?_ | refine b_call ?_ (by assumption)))⟩
  all_goals
    rw [(okS_no (by omega)).2]
    go_enter Try.func107, Try.ntmps107
    go_wp2_with fail
    go_ret
    exact ⟨rfl, by (repeat' (first | exact Below.refl _ _ | assumption | refine b_alloc ?_ _ | refine b_over ?_ _ | refine b_drew ?_ | refine b_call ?_ (by assumption)))⟩
end Go.Proofs.Ytdmidnmciaediaa
