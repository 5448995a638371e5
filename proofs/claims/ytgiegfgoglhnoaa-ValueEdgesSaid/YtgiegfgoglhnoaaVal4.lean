/- Layer 23: what two floats make by an operation: ours and the document's. Conditions: words have 64 bits. -/
import Derived.Test.YtgiegfgoglhnoaaVal3
import Derived.Deep.DeepCutAuto
import Derived.Deep.CutBlock
namespace Go.Proofs.Ytgiegfgoglhnoaa
open Go.RowKit
set_option linter.unusedVariables false
set_option linter.unusedSimpArgs false
theorem wp_world {P : Program} {c : Code} {Q : Exit → Act → World → Prop} {a : Act} {w : World} (o : Obj) (h : ∀ w1, w1 = w.alloc o → Code.wp P c Q a w1) : Code.wp P c Q a (w.alloc o) := h _ rfl
def floO (op : Int) (a b : Nat) : Nat := if op = 12 then arithN .add a b else if op = 13 then arithN .sub a b else if op = 14 then arithN .mul a b else if op = 15 then arithN .quo a b else if op = 16 then (if ltB a b = true then 1 else 0) else if op = 17 then (if eqB a b = true then 1 else 0) else if op = 18 then canon (leastN a b) else canon (negN (leastN (negN a) (negN b)))
theorem run_negf {P : Program} (b : Nat) (w : World) : (Op.unary UnOp.neg (.float .f64 b)).run P w = .ok (.float .f64 (negN b)) w := rfl
attribute [local go_sem] run_negf
theorem nan1_nan : isNan nan1 = true := by decide
theorem nan1_lt : nan1 < 18446744073709551616 := by decide
theorem least_lt {a b : Nat} (ha : a < 18446744073709551616) (hb : b < 18446744073709551616) : leastN a b < 18446744073709551616 := by
  unfold leastN
  split
  · exact nan1_lt
  · split <;> assumption
theorem flo_min {a b : Nat} (ha : a < 18446744073709551616) (hb : b < 18446744073709551616) : floO 18 a b = if isNan a = true ∨ isNan b = true then nanW else if totalO a b < 0 then a else b := by
  show canon (leastN a b) = _
  unfold leastN
  by_cases h : isNan a = true ∨ isNan b = true
  · rw [if_pos h, if_pos h, canon_nan nan1_nan]
  · rw [if_neg h, if_neg h]
    have na : isNan a = false := by cases q : isNan a with | true => exact absurd (Or.inl q) h | false => rfl
    have nb : isNan b = false := by cases q : isNan b with | true => exact absurd (Or.inr q) h | false => rfl
    by_cases h1 : totalO a b < 0
    · rw [if_pos (Int.le_of_lt h1), if_pos h1, canon_of na]
    · rw [if_neg h1]
      by_cases h2 : totalO a b ≤ 0
      · rw [if_pos h2, canon_of na]
        exact total_zero ha hb na nb (by omega)
      · rw [if_neg h2, canon_of nb]
theorem flo_max {a b : Nat} (ha : a < 18446744073709551616) (hb : b < 18446744073709551616) : floO 19 a b = if isNan a = true ∨ isNan b = true then nanW else if totalO a b < 0 then b else a := by
  show canon (negN (leastN (negN a) (negN b))) = _
  unfold leastN
  rw [isNan_neg ha, isNan_neg hb]
  by_cases h : isNan a = true ∨ isNan b = true
  · rw [if_pos h, if_pos h, canon_nan (by rw [isNan_neg nan1_lt]; exact nan1_nan)]
  · rw [if_neg h, if_neg h]
    have na : isNan a = false := by cases q : isNan a with | true => exact absurd (Or.inl q) h | false => rfl
    have nb : isNan b = false := by cases q : isNan b with | true => exact absurd (Or.inr q) h | false => rfl
    rw [total_neg ha hb na nb]
    by_cases h1 : totalO a b < 0
    · rw [if_neg (by omega), if_pos h1, negN_negN, canon_of nb]
    · rw [if_pos (by omega), if_neg h1, negN_negN, canon_of na]
theorem rtotal_any (a b : Nat) (w : World) (ha : a < 18446744073709551616) (hb : b < 18446744073709551616) : Calls Try.prog 40 #[.float .f64 a, .float .f64 b] w fun e w' => e = .returned (.int .i64 (totalO a b)) ∧ Below w.heap.size w w' := by
  have H : Hid (totalO a b = if kindO a < kindO b then -1 else if kindO b < kindO a then 1 else if ltB a b = true then -1 else if ltB b a = true then 1 else 0) := Lib.hid rfl
  have KA := fun w => Lib.hid (rkind_any a w ha)
  have KB := fun w => Lib.hid (rkind_any b w hb)
  have LA := fun w => Lib.hid (rless_any a b w ha hb)
  have LB := fun w => Lib.hid (rless_any b a w hb ha)
  clear ha hb
  rcases Int.lt_trichotomy (kindO a) (kindO b) with h | h | h
  · have HR : Hid (totalO a b = -1) := Lib.hid (by rw [H.out, if_pos h])
    have d1 := decide_eq_true h
    clear h
    go_enter Try.func40, Try.ntmps40
    go_wp2_with fail
    refine (KA _).out.mono ?_
    rintro e w1 ⟨rfl, hb1⟩
    go_wp2_with fail
    refine (KB _).out.mono ?_
    rintro e w2 ⟨rfl, hb2⟩
    go_wp2_with fail
    go_ret
    exact ⟨by rw [HR.out]; first | done | rfl, (b_call hb1 hb2)⟩
  · have e1 : (kindO a == kindO b) = true := by rw [h]; simp
    have d1 : decide (kindO a < kindO b) = false := by rw [decide_eq_false_iff_not]; omega
    have d2 : decide (kindO b < kindO a) = false := by rw [decide_eq_false_iff_not]; omega
    have n1 : ¬ kindO a < kindO b := by omega
    have n2 : ¬ kindO b < kindO a := by omega
    have HE := H.out
    rw [if_neg n1, if_neg n2] at HE
    clear n1 n2 h
    cases hl : ltB a b with
    | true =>
      rw [hl] at HE
      have HR := Lib.hid HE
      have HL := Lib.hid hl
      clear HE hl
      go_enter Try.func40, Try.ntmps40
      go_wp2_with fail
      refine (KA _).out.mono ?_
      rintro e w1 ⟨rfl, hb1⟩
      go_wp2_with fail
      refine (KB _).out.mono ?_
      rintro e w2 ⟨rfl, hb2⟩
      go_wp2_with fail
      refine (KA _).out.mono ?_
      rintro e w3 ⟨rfl, hb3⟩
      go_wp2_with fail
      refine (KB _).out.mono ?_
      rintro e w4 ⟨rfl, hb4⟩
      go_wp2_with fail
      refine (LA _).out.mono ?_
      rintro e w5 ⟨rfl, hb5⟩
      rw [HL.out]
      go_wp2_with fail
      go_ret
      exact ⟨by rw [HR.out]; first | done | rfl, (b_call (b_call (b_call (b_call hb1 hb2) hb3) hb4) hb5)⟩
    | false =>
      rw [hl] at HE
      cases hg : ltB b a with
      | true =>
        rw [hg] at HE
        have HR := Lib.hid HE
        have HL := Lib.hid hl
        have HG := Lib.hid hg
        clear HE hl hg
        go_enter Try.func40, Try.ntmps40
        go_wp2_with fail
        refine (KA _).out.mono ?_
        rintro e w1 ⟨rfl, hb1⟩
        go_wp2_with fail
        refine (KB _).out.mono ?_
        rintro e w2 ⟨rfl, hb2⟩
        go_wp2_with fail
        refine (KA _).out.mono ?_
        rintro e w3 ⟨rfl, hb3⟩
        go_wp2_with fail
        refine (KB _).out.mono ?_
        rintro e w4 ⟨rfl, hb4⟩
        go_wp2_with fail
        refine (LA _).out.mono ?_
        rintro e w5 ⟨rfl, hb5⟩
        rw [HL.out]
        go_wp2_with fail
        refine (KB _).out.mono ?_
        rintro e w6 ⟨rfl, hb6⟩
        go_wp2_with fail
        refine (KA _).out.mono ?_
        rintro e w7 ⟨rfl, hb7⟩
        go_wp2_with fail
        refine (KA _).out.mono ?_
        rintro e w8 ⟨rfl, hb8⟩
        go_wp2_with fail
        refine (KB _).out.mono ?_
        rintro e w9 ⟨rfl, hb9⟩
        go_wp2_with fail
        refine (LB _).out.mono ?_
        rintro e w10 ⟨rfl, hb10⟩
        rw [HG.out]
        go_wp2_with fail
        go_ret
        exact ⟨by rw [HR.out]; first | done | rfl, (b_call (b_call (b_call (b_call (b_call (b_call (b_call (b_call (b_call hb1 hb2) hb3) hb4) hb5) hb6) hb7) hb8) hb9) hb10)⟩
      | false =>
        rw [hg] at HE
        have HR := Lib.hid HE
        have HL := Lib.hid hl
        have HG := Lib.hid hg
        clear HE hl hg
        go_enter Try.func40, Try.ntmps40
        go_wp2_with fail
        refine (KA _).out.mono ?_
        rintro e w1 ⟨rfl, hb1⟩
        go_wp2_with fail
        refine (KB _).out.mono ?_
        rintro e w2 ⟨rfl, hb2⟩
        go_wp2_with fail
        refine (KA _).out.mono ?_
        rintro e w3 ⟨rfl, hb3⟩
        go_wp2_with fail
        refine (KB _).out.mono ?_
        rintro e w4 ⟨rfl, hb4⟩
        go_wp2_with fail
        refine (LA _).out.mono ?_
        rintro e w5 ⟨rfl, hb5⟩
        rw [HL.out]
        go_wp2_with fail
        refine (KB _).out.mono ?_
        rintro e w6 ⟨rfl, hb6⟩
        go_wp2_with fail
        refine (KA _).out.mono ?_
        rintro e w7 ⟨rfl, hb7⟩
        go_wp2_with fail
        refine (KA _).out.mono ?_
        rintro e w8 ⟨rfl, hb8⟩
        go_wp2_with fail
        refine (KB _).out.mono ?_
        rintro e w9 ⟨rfl, hb9⟩
        go_wp2_with fail
        refine (LB _).out.mono ?_
        rintro e w10 ⟨rfl, hb10⟩
        rw [HG.out]
        go_wp2_with fail
        go_ret
        exact ⟨by rw [HR.out]; first | done | rfl, (b_call (b_call (b_call (b_call (b_call (b_call (b_call (b_call (b_call hb1 hb2) hb3) hb4) hb5) hb6) hb7) hb8) hb9) hb10)⟩
  · have HR : Hid (totalO a b = 1) := Lib.hid (by rw [H.out, if_neg (by omega), if_pos h])
    have d1 : decide (kindO a < kindO b) = false := by rw [decide_eq_false_iff_not]; omega
    have e1 : (kindO a == kindO b) = false := beq_false_of_ne (by omega)
    have d2 := decide_eq_true h
    clear h
    go_enter Try.func40, Try.ntmps40
    go_wp2_with fail
    refine (KA _).out.mono ?_
    rintro e w1 ⟨rfl, hb1⟩
    go_wp2_with fail
    refine (KB _).out.mono ?_
    rintro e w2 ⟨rfl, hb2⟩
    go_wp2_with fail
    refine (KA _).out.mono ?_
    rintro e w3 ⟨rfl, hb3⟩
    go_wp2_with fail
    refine (KB _).out.mono ?_
    rintro e w4 ⟨rfl, hb4⟩
    go_wp2_with fail
    refine (KB _).out.mono ?_
    rintro e w5 ⟨rfl, hb5⟩
    go_wp2_with fail
    refine (KA _).out.mono ?_
    rintro e w6 ⟨rfl, hb6⟩
    go_wp2_with fail
    go_ret
    exact ⟨by rw [HR.out]; first | done | rfl, (b_call (b_call (b_call (b_call (b_call hb1 hb2) hb3) hb4) hb5) hb6)⟩
theorem floats_any (op : Int) (a b : Nat) (w : World) (h1 : 12 ≤ op) (h2 : op ≤ 19) (ha : a < 18446744073709551616) (hb : b < 18446744073709551616) : Calls Try.prog 30 #[.int .i64 op, .float .f64 a, .float .f64 b] w fun e w' => e = .returned (valV (givesO op) (floO op a b : Nat)) ∧ Below w.heap.size w w' := by
  have LL := fun w => Lib.hid (least_any a b w ha hb)
  have NL := fun w => Lib.hid (least_any (negN a) (negN b) w (negN_lt ha) (negN_lt hb))
  clear ha hb
  rcases (show op = 12 ∨ op = 13 ∨ op = 14 ∨ op = 15 ∨ op = 16 ∨ op = 17 ∨ op = 18 ∨ op = 19 by omega) with rfl | rfl | rfl | rfl | rfl | rfl | rfl | rfl
  · clear h1 h2
    have HA := fun w => run_arith (P := Try.prog) .add (by simp) 40 a b w
    go_enter Try.func30, Try.ntmps30
    go_upto_region 3 with fail
    refine wp_world _ ?_
    intro w3 hw3
    have F3 := blk_new w #[.int .i64 0, .int .u64 0] 25
    have hB3 := b_alloc (Below.refl w.heap.size w) (.cells #[.int .i64 0, .int .u64 0] 25)
    rw [← hw3] at F3 hB3
    clear hw3
    obtain ⟨r, k, hrun, hc⟩ := HA w3
    have HC := Lib.hid hc
    clear HA hc
    go_wp2_with fail
    refine (ofFloat_any _ _).mono ?_
    rintro e w4 ⟨rfl, hb4⟩
    obtain ⟨c0, c1, cf⟩ := blk2 (blk_below (blk_drewN F3 k) hb4)
    rw [HC.out]
    unfold valV
    clear hrun
    go_wp2_with fail
    exact bodyPost_ret (v := valV (givesO 12) (floO 12 a b : Nat)) (by rw [show valV (givesO 12) (floO 12 a b : Nat) = valV 1 (arithN .add a b : Nat) from rfl]; simp [results, Try.results30, go_sem, valV, c0, c1, cf]) rfl ⟨rfl, b_set (b_set (b_call (b_drewN hB3 k) hb4) (Nat.le_refl _) _) (Nat.le_refl _) _⟩
  · clear h1 h2
    have HA := fun w => run_arith (P := Try.prog) .sub (by simp) 40 a b w
    go_enter Try.func30, Try.ntmps30
    go_upto_region 5 with fail
    refine wp_world _ ?_
    intro w3 hw3
    have F3 := blk_new w #[.int .i64 0, .int .u64 0] 25
    have hB3 := b_alloc (Below.refl w.heap.size w) (.cells #[.int .i64 0, .int .u64 0] 25)
    rw [← hw3] at F3 hB3
    clear hw3
    obtain ⟨r, k, hrun, hc⟩ := HA w3
    have HC := Lib.hid hc
    clear HA hc
    go_wp2_with fail
    refine (ofFloat_any _ _).mono ?_
    rintro e w4 ⟨rfl, hb4⟩
    obtain ⟨c0, c1, cf⟩ := blk2 (blk_below (blk_drewN F3 k) hb4)
    rw [HC.out]
    unfold valV
    clear hrun
    go_wp2_with fail
    exact bodyPost_ret (v := valV (givesO 13) (floO 13 a b : Nat)) (by rw [show valV (givesO 13) (floO 13 a b : Nat) = valV 1 (arithN .sub a b : Nat) from rfl]; simp [results, Try.results30, go_sem, valV, c0, c1, cf]) rfl ⟨rfl, b_set (b_set (b_call (b_drewN hB3 k) hb4) (Nat.le_refl _) _) (Nat.le_refl _) _⟩
  · clear h1 h2
    have HA := fun w => run_arith (P := Try.prog) .mul (by simp) 40 a b w
    go_enter Try.func30, Try.ntmps30
    go_upto_region 7 with fail
    refine wp_world _ ?_
    intro w3 hw3
    have F3 := blk_new w #[.int .i64 0, .int .u64 0] 25
    have hB3 := b_alloc (Below.refl w.heap.size w) (.cells #[.int .i64 0, .int .u64 0] 25)
    rw [← hw3] at F3 hB3
    clear hw3
    obtain ⟨r, k, hrun, hc⟩ := HA w3
    have HC := Lib.hid hc
    clear HA hc
    go_wp2_with fail
    refine (ofFloat_any _ _).mono ?_
    rintro e w4 ⟨rfl, hb4⟩
    obtain ⟨c0, c1, cf⟩ := blk2 (blk_below (blk_drewN F3 k) hb4)
    rw [HC.out]
    unfold valV
    clear hrun
    go_wp2_with fail
    exact bodyPost_ret (v := valV (givesO 14) (floO 14 a b : Nat)) (by rw [show valV (givesO 14) (floO 14 a b : Nat) = valV 1 (arithN .mul a b : Nat) from rfl]; simp [results, Try.results30, go_sem, valV, c0, c1, cf]) rfl ⟨rfl, b_set (b_set (b_call (b_drewN hB3 k) hb4) (Nat.le_refl _) _) (Nat.le_refl _) _⟩
  · clear h1 h2
    have HA := fun w => run_arith (P := Try.prog) .quo (by simp) 40 a b w
    go_enter Try.func30, Try.ntmps30
    go_upto_region 9 with fail
    refine wp_world _ ?_
    intro w3 hw3
    have F3 := blk_new w #[.int .i64 0, .int .u64 0] 25
    have hB3 := b_alloc (Below.refl w.heap.size w) (.cells #[.int .i64 0, .int .u64 0] 25)
    rw [← hw3] at F3 hB3
    clear hw3
    obtain ⟨r, k, hrun, hc⟩ := HA w3
    have HC := Lib.hid hc
    clear HA hc
    go_wp2_with fail
    refine (ofFloat_any _ _).mono ?_
    rintro e w4 ⟨rfl, hb4⟩
    obtain ⟨c0, c1, cf⟩ := blk2 (blk_below (blk_drewN F3 k) hb4)
    rw [HC.out]
    unfold valV
    clear hrun
    go_wp2_with fail
    exact bodyPost_ret (v := valV (givesO 15) (floO 15 a b : Nat)) (by rw [show valV (givesO 15) (floO 15 a b : Nat) = valV 1 (arithN .quo a b : Nat) from rfl]; simp [results, Try.results30, go_sem, valV, c0, c1, cf]) rfl ⟨rfl, b_set (b_set (b_call (b_drewN hB3 k) hb4) (Nat.le_refl _) _) (Nat.le_refl _) _⟩
  · clear h1 h2
    have HV : Hid (valV (givesO 16) (floO 16 a b : Nat) = valV 0 (truthI (ltB a b))) := Lib.hid (by show valV 0 ((if ltB a b = true then 1 else 0 : Nat) : Int) = _; cases ltB a b <;> rfl)
    go_enter Try.func30, Try.ntmps30
    go_wp2_with fail
    refine (less_any _ _ _).mono ?_
    rintro e w3 ⟨rfl, rfl⟩
    go_wp2_with fail
    refine (truth_any _ _).mono ?_
    rintro e w4 ⟨rfl, hb4⟩
    obtain ⟨c0, c1, cf⟩ := blk2 (blk_born hb4)
    unfold valV
    go_wp2_with fail
    exact bodyPost_ret (v := valV (givesO 16) (floO 16 a b : Nat)) (by rw [HV.out]; simp [results, Try.results30, go_sem, valV, c0, c1, cf]) rfl ⟨rfl, b_set (b_set (b_call (b_alloc (Below.refl _ _) _) hb4) (Nat.le_refl _) _) (Nat.le_refl _) _⟩
  · clear h1 h2
    have HV : Hid (valV (givesO 17) (floO 17 a b : Nat) = valV 0 (truthI (eqB a b))) := Lib.hid (by show valV 0 ((if eqB a b = true then 1 else 0 : Nat) : Int) = _; cases eqB a b <;> rfl)
    go_enter Try.func30, Try.ntmps30
    go_wp2_with fail
    refine (equal_any _ _ _).mono ?_
    rintro e w3 ⟨rfl, rfl⟩
    go_wp2_with fail
    refine (truth_any _ _).mono ?_
    rintro e w4 ⟨rfl, hb4⟩
    obtain ⟨c0, c1, cf⟩ := blk2 (blk_born hb4)
    unfold valV
    go_wp2_with fail
    exact bodyPost_ret (v := valV (givesO 17) (floO 17 a b : Nat)) (by rw [HV.out]; simp [results, Try.results30, go_sem, valV, c0, c1, cf]) rfl ⟨rfl, b_set (b_set (b_call (b_alloc (Below.refl _ _) _) hb4) (Nat.le_refl _) _) (Nat.le_refl _) _⟩
  · clear h1 h2
    go_enter Try.func30, Try.ntmps30
    go_wp2_with fail
    refine (LL _).out.mono ?_
    rintro e w3 ⟨rfl, rfl⟩
    go_wp2_with fail
    refine (ofFloat_any _ _).mono ?_
    rintro e w4 ⟨rfl, hb4⟩
    obtain ⟨c0, c1, cf⟩ := blk2 (blk_born hb4)
    unfold valV
    go_wp2_with fail
    exact bodyPost_ret (v := valV (givesO 18) (floO 18 a b : Nat)) (by rw [show valV (givesO 18) (floO 18 a b : Nat) = valV 1 (canon (leastN a b) : Nat) from rfl]; simp [results, Try.results30, go_sem, valV, c0, c1, cf]) rfl ⟨rfl, b_set (b_set (b_call (b_alloc (Below.refl _ _) _) hb4) (Nat.le_refl _) _) (Nat.le_refl _) _⟩
  · clear h1 h2
    go_enter Try.func30, Try.ntmps30
    go_wp2_with fail
    refine (NL _).out.mono ?_
    rintro e w3 ⟨rfl, rfl⟩
    go_wp2_with fail
    refine (ofFloat_any (negN (leastN (negN a) (negN b))) _).mono ?_
    rintro e w4 ⟨rfl, hb4⟩
    obtain ⟨c0, c1, cf⟩ := blk2 (blk_born hb4)
    unfold valV
    go_wp2_with fail
    exact bodyPost_ret (v := valV (givesO 19) (floO 19 a b : Nat)) (by rw [show valV (givesO 19) (floO 19 a b : Nat) = valV 1 (canon (negN (leastN (negN a) (negN b))) : Nat) from rfl]; simp [results, Try.results30, go_sem, valV, c0, c1, cf]) rfl ⟨rfl, b_set (b_set (b_call (b_alloc (Below.refl _ _) _) hb4) (Nat.le_refl _) _) (Nat.le_refl _) _⟩
theorem rfl_any (op : Int) (a b : Nat) (w : World) (h1 : 12 ≤ op) (h2 : op ≤ 19) (ha : a < 18446744073709551616) (hb : b < 18446744073709551616) : Calls Try.prog 21 #[.int .i64 op, .int .u64 (a : Nat), .int .u64 (b : Nat)] w fun e w' => e = .returned (.int .u64 (floO op a b : Nat)) ∧ Below w.heap.size w w' := by
  have KA := fun w => Lib.hid (rkind_any a w ha)
  have KB := fun w => Lib.hid (rkind_any b w hb)
  have LA := fun w => Lib.hid (rless_any a b w ha hb)
  have EA := fun w => Lib.hid (requal_any a b w ha hb)
  have TT := fun w => Lib.hid (rtotal_any a b w ha hb)
  have MI := Lib.hid (flo_min ha hb)
  have MA := Lib.hid (flo_max ha hb)
  have za := kind_zero a
  have zb := kind_zero b
  clear ha hb
  rcases (show op = 12 ∨ op = 13 ∨ op = 14 ∨ op = 15 ∨ op = 16 ∨ op = 17 ∨ op = 18 ∨ op = 19 by omega) with rfl | rfl | rfl | rfl | rfl | rfl | rfl | rfl
  · clear h1 h2 za zb
    obtain ⟨r, k, hrun, hc⟩ := run_arith (P := Try.prog) .add (by simp) 40 a b w
    have HC := Lib.hid hc
    clear hc
    go_enter Try.func21, Try.ntmps21
    go_wp2_with fail
    refine (rfloat_any _ _).mono ?_
    rintro e w1 ⟨rfl, rfl⟩
    go_wp2_with fail
    refine (rfloat_any _ _).mono ?_
    rintro e w1 ⟨rfl, rfl⟩
    go_wp2_with fail
    refine (rbits_any _ _).mono ?_
    rintro e w4 ⟨rfl, hb4⟩
    clear hrun
    go_wp2_with fail
    go_ret
    exact ⟨by rw [HC.out]; rfl, b_call (b_drewN (Below.refl _ _) k) hb4⟩
  · clear h1 h2 za zb
    obtain ⟨r, k, hrun, hc⟩ := run_arith (P := Try.prog) .sub (by simp) 40 a b w
    have HC := Lib.hid hc
    clear hc
    go_enter Try.func21, Try.ntmps21
    go_wp2_with fail
    refine (rfloat_any _ _).mono ?_
    rintro e w1 ⟨rfl, rfl⟩
    go_wp2_with fail
    refine (rfloat_any _ _).mono ?_
    rintro e w1 ⟨rfl, rfl⟩
    go_wp2_with fail
    refine (rbits_any _ _).mono ?_
    rintro e w4 ⟨rfl, hb4⟩
    clear hrun
    go_wp2_with fail
    go_ret
    exact ⟨by rw [HC.out]; rfl, b_call (b_drewN (Below.refl _ _) k) hb4⟩
  · clear h1 h2 za zb
    obtain ⟨r, k, hrun, hc⟩ := run_arith (P := Try.prog) .mul (by simp) 40 a b w
    have HC := Lib.hid hc
    clear hc
    go_enter Try.func21, Try.ntmps21
    go_wp2_with fail
    refine (rfloat_any _ _).mono ?_
    rintro e w1 ⟨rfl, rfl⟩
    go_wp2_with fail
    refine (rfloat_any _ _).mono ?_
    rintro e w1 ⟨rfl, rfl⟩
    go_wp2_with fail
    refine (rbits_any _ _).mono ?_
    rintro e w4 ⟨rfl, hb4⟩
    clear hrun
    go_wp2_with fail
    go_ret
    exact ⟨by rw [HC.out]; rfl, b_call (b_drewN (Below.refl _ _) k) hb4⟩
  · clear h1 h2 za zb
    obtain ⟨r, k, hrun, hc⟩ := run_arith (P := Try.prog) .quo (by simp) 40 a b w
    have HC := Lib.hid hc
    clear hc
    go_enter Try.func21, Try.ntmps21
    go_wp2_with fail
    refine (rfloat_any _ _).mono ?_
    rintro e w1 ⟨rfl, rfl⟩
    go_wp2_with fail
    refine (rfloat_any _ _).mono ?_
    rintro e w1 ⟨rfl, rfl⟩
    go_wp2_with fail
    refine (rbits_any _ _).mono ?_
    rintro e w4 ⟨rfl, hb4⟩
    clear hrun
    go_wp2_with fail
    go_ret
    exact ⟨by rw [HC.out]; rfl, b_call (b_drewN (Below.refl _ _) k) hb4⟩
  · clear h1 h2 za zb
    have HV : Hid (((floO 16 a b : Nat) : Int) = truthI (ltB a b)) := Lib.hid (by show ((if ltB a b = true then 1 else 0 : Nat) : Int) = _; cases ltB a b <;> rfl)
    go_enter Try.func21, Try.ntmps21
    go_wp2_with fail
    refine (rfloat_any _ _).mono ?_
    rintro e w1 ⟨rfl, rfl⟩
    go_wp2_with fail
    refine (rfloat_any _ _).mono ?_
    rintro e w1 ⟨rfl, rfl⟩
    go_wp2_with fail
    refine (LA _).out.mono ?_
    rintro e w4 ⟨rfl, hb4⟩
    go_wp2_with fail
    refine (one_any _ _).mono ?_
    rintro e w5 ⟨rfl, rfl⟩
    go_wp2_with fail
    go_ret
    exact ⟨by rw [HV.out]; first | done | rfl, hb4⟩
  · clear h1 h2 za zb
    have HV : Hid (((floO 17 a b : Nat) : Int) = truthI (eqB a b)) := Lib.hid (by show ((if eqB a b = true then 1 else 0 : Nat) : Int) = _; cases eqB a b <;> rfl)
    go_enter Try.func21, Try.ntmps21
    go_wp2_with fail
    refine (rfloat_any _ _).mono ?_
    rintro e w1 ⟨rfl, rfl⟩
    go_wp2_with fail
    refine (rfloat_any _ _).mono ?_
    rintro e w1 ⟨rfl, rfl⟩
    go_wp2_with fail
    refine (EA _).out.mono ?_
    rintro e w4 ⟨rfl, hb4⟩
    go_wp2_with fail
    refine (one_any _ _).mono ?_
    rintro e w5 ⟨rfl, rfl⟩
    go_wp2_with fail
    go_ret
    exact ⟨by rw [HV.out]; first | done | rfl, hb4⟩
  · clear h1 h2
    cases na : isNan a with
    | true =>
      rw [na] at za
      have HR := Lib.hid (MI.out.trans (if_pos (Or.inl na)))
      clear na zb
      go_enter Try.func21, Try.ntmps21
      go_wp2_with fail
      refine (rfloat_any _ _).mono ?_
      rintro e w1 ⟨rfl, rfl⟩
      go_wp2_with fail
      refine (rfloat_any _ _).mono ?_
      rintro e w1 ⟨rfl, rfl⟩
      go_wp2_with fail
      refine (KA _).out.mono ?_
      rintro e w4 ⟨rfl, hb4⟩
      go_wp2_with fail
      go_ret
      exact ⟨by rw [HR.out]; first | done | rfl, hb4⟩
    | false =>
      rw [na] at za
      cases nb : isNan b with
      | true =>
        rw [nb] at zb
        have HR := Lib.hid (MI.out.trans (if_pos (Or.inr nb)))
        clear na nb
        go_enter Try.func21, Try.ntmps21
        go_wp2_with fail
        refine (rfloat_any _ _).mono ?_
        rintro e w1 ⟨rfl, rfl⟩
        go_wp2_with fail
        refine (rfloat_any _ _).mono ?_
        rintro e w1 ⟨rfl, rfl⟩
        go_wp2_with fail
        refine (KA _).out.mono ?_
        rintro e w4 ⟨rfl, hb4⟩
        go_wp2_with fail
        refine (KB _).out.mono ?_
        rintro e w5 ⟨rfl, hb5⟩
        go_wp2_with fail
        go_ret
        exact ⟨by rw [HR.out]; first | done | rfl, b_call hb4 hb5⟩
      | false =>
        rw [nb] at zb
        have HQ := Lib.hid (MI.out.trans (if_neg (by rw [na, nb]; simp)))
        clear na nb
        by_cases ht : totalO a b < 0
        · have HR := Lib.hid (HQ.out.trans (if_pos ht))
          have t := decide_eq_true ht
          clear ht
          go_enter Try.func21, Try.ntmps21
          go_wp2_with fail
          refine (rfloat_any _ _).mono ?_
          rintro e w1 ⟨rfl, rfl⟩
          go_wp2_with fail
          refine (rfloat_any _ _).mono ?_
          rintro e w1 ⟨rfl, rfl⟩
          go_wp2_with fail
          refine (KA _).out.mono ?_
          rintro e w4 ⟨rfl, hb4⟩
          go_wp2_with fail
          refine (KB _).out.mono ?_
          rintro e w5 ⟨rfl, hb5⟩
          go_wp2_with fail
          refine (TT _).out.mono ?_
          rintro e w6 ⟨rfl, hb6⟩
          go_wp2_with fail
          go_ret
          exact ⟨by rw [HR.out]; first | done | rfl, b_call (b_call hb4 hb5) hb6⟩
        · have HR := Lib.hid (HQ.out.trans (if_neg ht))
          have t := decide_eq_false ht
          clear ht
          go_enter Try.func21, Try.ntmps21
          go_wp2_with fail
          refine (rfloat_any _ _).mono ?_
          rintro e w1 ⟨rfl, rfl⟩
          go_wp2_with fail
          refine (rfloat_any _ _).mono ?_
          rintro e w1 ⟨rfl, rfl⟩
          go_wp2_with fail
          refine (KA _).out.mono ?_
          rintro e w4 ⟨rfl, hb4⟩
          go_wp2_with fail
          refine (KB _).out.mono ?_
          rintro e w5 ⟨rfl, hb5⟩
          go_wp2_with fail
          refine (TT _).out.mono ?_
          rintro e w6 ⟨rfl, hb6⟩
          go_wp2_with fail
          go_ret
          exact ⟨by rw [HR.out]; first | done | rfl, b_call (b_call hb4 hb5) hb6⟩
  · clear h1 h2
    cases na : isNan a with
    | true =>
      rw [na] at za
      have HR := Lib.hid (MA.out.trans (if_pos (Or.inl na)))
      clear na zb
      go_enter Try.func21, Try.ntmps21
      go_wp2_with fail
      refine (rfloat_any _ _).mono ?_
      rintro e w1 ⟨rfl, rfl⟩
      go_wp2_with fail
      refine (rfloat_any _ _).mono ?_
      rintro e w1 ⟨rfl, rfl⟩
      go_wp2_with fail
      refine (KA _).out.mono ?_
      rintro e w4 ⟨rfl, hb4⟩
      go_wp2_with fail
      go_ret
      exact ⟨by rw [HR.out]; first | done | rfl, hb4⟩
    | false =>
      rw [na] at za
      cases nb : isNan b with
      | true =>
        rw [nb] at zb
        have HR := Lib.hid (MA.out.trans (if_pos (Or.inr nb)))
        clear na nb
        go_enter Try.func21, Try.ntmps21
        go_wp2_with fail
        refine (rfloat_any _ _).mono ?_
        rintro e w1 ⟨rfl, rfl⟩
        go_wp2_with fail
        refine (rfloat_any _ _).mono ?_
        rintro e w1 ⟨rfl, rfl⟩
        go_wp2_with fail
        refine (KA _).out.mono ?_
        rintro e w4 ⟨rfl, hb4⟩
        go_wp2_with fail
        refine (KB _).out.mono ?_
        rintro e w5 ⟨rfl, hb5⟩
        go_wp2_with fail
        go_ret
        exact ⟨by rw [HR.out]; first | done | rfl, b_call hb4 hb5⟩
      | false =>
        rw [nb] at zb
        have HQ := Lib.hid (MA.out.trans (if_neg (by rw [na, nb]; simp)))
        clear na nb
        by_cases ht : totalO a b < 0
        · have HR := Lib.hid (HQ.out.trans (if_pos ht))
          have t := decide_eq_true ht
          clear ht
          go_enter Try.func21, Try.ntmps21
          go_wp2_with fail
          refine (rfloat_any _ _).mono ?_
          rintro e w1 ⟨rfl, rfl⟩
          go_wp2_with fail
          refine (rfloat_any _ _).mono ?_
          rintro e w1 ⟨rfl, rfl⟩
          go_wp2_with fail
          refine (KA _).out.mono ?_
          rintro e w4 ⟨rfl, hb4⟩
          go_wp2_with fail
          refine (KB _).out.mono ?_
          rintro e w5 ⟨rfl, hb5⟩
          go_wp2_with fail
          refine (TT _).out.mono ?_
          rintro e w6 ⟨rfl, hb6⟩
          go_wp2_with fail
          go_ret
          exact ⟨by rw [HR.out]; first | done | rfl, b_call (b_call hb4 hb5) hb6⟩
        · have HR := Lib.hid (HQ.out.trans (if_neg ht))
          have t := decide_eq_false ht
          clear ht
          go_enter Try.func21, Try.ntmps21
          go_wp2_with fail
          refine (rfloat_any _ _).mono ?_
          rintro e w1 ⟨rfl, rfl⟩
          go_wp2_with fail
          refine (rfloat_any _ _).mono ?_
          rintro e w1 ⟨rfl, rfl⟩
          go_wp2_with fail
          refine (KA _).out.mono ?_
          rintro e w4 ⟨rfl, hb4⟩
          go_wp2_with fail
          refine (KB _).out.mono ?_
          rintro e w5 ⟨rfl, hb5⟩
          go_wp2_with fail
          refine (TT _).out.mono ?_
          rintro e w6 ⟨rfl, hb6⟩
          go_wp2_with fail
          go_ret
          exact ⟨by rw [HR.out]; first | done | rfl, b_call (b_call hb4 hb5) hb6⟩
end Go.Proofs.Ytgiegfgoglhnoaa
