/- Layer 17's objects over an arena: the place of a field, references and numbers read and set. Conditions: an arena as AreAt says. -/
import Derived.Test.YtgbbnmjfkhconaaObj2
namespace Go.Proofs.Ytgbbnmjfkhconaa
open Go.RowKit
set_option linter.unusedVariables false
set_option linter.unusedSimpArgs false
attribute [local go_sem] over_cell over_frozen
def manyF (L : List Int) (a : Int) (nu : Bool) : Int := if nu = true then headN L a else headR L a
def behF (L : List Int) (a : Int) (nu : Bool) : Int := if nu = true then headR L a else 0
def fldE (L : List Int) (a k : Int) (nu : Bool) : Int := if headE L a = 0 then (if 0 ≤ k ∧ k < manyF L a nu then 0 else 3) else headE L a
def fldP (L : List Int) (a k : Int) (nu : Bool) : Int := if fldE L a k nu = 0 then a + 8 * (1 + behF L a nu + k) else 0
theorem head_facts {L : List Int} {a : Int} (h : headE L a = 0) : ∃ p : Nat, a = p ∧ p % 8 = 0 ∧ 0 ≤ headR L a ∧ 0 ≤ headN L a ∧ headR L a + headN L a ≤ 15 ∧ (p : Int) + 8 + 8 * headR L a + 8 * headN L a ≤ L.length ∧ wordE L.length a = 0 ∧ getW L p = wordS (headR L a) (headN L a) := by
  by_cases hq : wordE L.length a = 0 ∧ okS (hdR L a) (hdN L a) = true ∧ wordS (hdR L a) (hdN L a) = getW L a.toNat ∧ bytS (hdR L a) (hdN L a) ≤ L.length - a
  · obtain ⟨e1, e2, _⟩ := head_yes hq
    obtain ⟨h0, h1, h2, h3⟩ := hq
    rw [e1, e2]
    have h4 := (okS_iff _ _).1 h1
    rw [(okS_yes h4).2] at h3
    rcases wordE_cases L.length a with ⟨q, _⟩ | ⟨q, _⟩ | ⟨_, _, k, q, q1, q2⟩
    · omega
    · omega
    · refine ⟨k, q, q2, h4.1, h4.2.1, h4.2.2, by omega, h0, ?_⟩
      rw [h2, q, Int.toNat_natCast]
  · obtain ⟨_, _, e3⟩ := head_no hq
    rw [e3] at h
    split at h
    · omega
    · omega
theorem fld_cases (L : List Int) (a k : Int) (nu : Bool) : (headE L a ≠ 0 ∧ fldE L a k nu = headE L a ∧ fldP L a k nu = 0) ∨ (headE L a = 0 ∧ ¬ (0 ≤ k ∧ k < manyF L a nu) ∧ fldE L a k nu = 3 ∧ fldP L a k nu = 0) ∨ (headE L a = 0 ∧ 0 ≤ k ∧ k < manyF L a nu ∧ fldE L a k nu = 0 ∧ fldP L a k nu = a + 8 * (1 + behF L a nu + k)) := by
  by_cases h : headE L a = 0
  · by_cases h2 : 0 ≤ k ∧ k < manyF L a nu
    · have e : fldE L a k nu = 0 := by unfold fldE; rw [if_pos h, if_pos h2]
      exact Or.inr (Or.inr ⟨h, h2.1, h2.2, e, by unfold fldP; rw [if_pos e]⟩)
    · have e : fldE L a k nu = 3 := by unfold fldE; rw [if_pos h, if_neg h2]
      exact Or.inr (Or.inl ⟨h, h2, e, by unfold fldP; rw [if_neg (by omega)]⟩)
  · have e : fldE L a k nu = headE L a := by unfold fldE; rw [if_neg h]
    exact Or.inl ⟨h, e, by unfold fldP; rw [if_neg (by omega)]⟩
theorem man_bd {L : List Int} {a : Int} (h : headE L a = 0) (nu : Bool) : 0 ≤ manyF L a nu ∧ manyF L a nu ≤ 15 ∧ 0 ≤ behF L a nu ∧ behF L a nu ≤ 15 ∧ behF L a nu + manyF L a nu ≤ headR L a + headN L a := by
  obtain ⟨_, _, _, h1, h2, h3, _, _, _⟩ := head_facts h
  cases nu
  · show 0 ≤ headR L a ∧ headR L a ≤ 15 ∧ (0 : Int) ≤ 0 ∧ (0 : Int) ≤ 15 ∧ 0 + headR L a ≤ _; omega
  · show 0 ≤ headN L a ∧ headN L a ≤ 15 ∧ 0 ≤ headR L a ∧ headR L a ≤ 15 ∧ headR L a + headN L a ≤ _; omega
theorem wordE_ok {n p : Nat} (h1 : p % 8 = 0) (h2 : p + 8 ≤ n) : wordE n p = 0 := by
  unfold wordE
  have e : inE n (p : Int) 8 = 0 := inE_ok (m := 8) h2
  rw [if_pos e, if_pos (by omega)]
theorem fld_word {L : List Int} {a k : Int} {nu : Bool} (h : fldE L a k nu = 0) : ∃ p : Nat, fldP L a k nu = p ∧ p % 8 = 0 ∧ p + 8 ≤ L.length ∧ wordE L.length (fldP L a k nu) = 0 := by
  rcases fld_cases L a k nu with ⟨q, q2, _⟩ | ⟨_, _, q, _⟩ | ⟨q, k1, k2, _, e⟩
  · omega
  · omega
  · obtain ⟨p, rfl, h1, h2, h3, h4, h5, _, _⟩ := head_facts q
    obtain ⟨m1, m2, m3, m4, m5⟩ := man_bd q nu
    refine ⟨(p + 8 * (1 + behF L p nu + k)).toNat, ?_, ?_, ?_, ?_⟩
    · rw [e]; omega
    · omega
    · omega
    · rw [e, show (p : Int) + 8 * (1 + behF L p nu + k) = (((p : Int) + 8 * (1 + behF L p nu + k)).toNat : Nat) by omega]
      exact wordE_ok (by omega) (by omega)
theorem ofield_any (a k m h : Int) (ha : 0 ≤ a ∧ a ≤ 65536) (hm : m ≤ 15) (hh : 0 ≤ h ∧ h ≤ 15) (w : World) : Calls Try.prog 105 #[.int .i64 a, .int .i64 k, .int .i64 m, .int .i64 h] w fun e w' => e = .returned (.tuple #[.int .i64 (if 0 ≤ k ∧ k < m then a + 8 * (1 + h + k) else 0), .int .i64 (if 0 ≤ k ∧ k < m then 0 else 3)]) ∧ w = w' := by
  obtain ⟨a1, a2⟩ := ha
  obtain ⟨h1, h2⟩ := hh
  rcases (show k < 0 ∨ (0 ≤ k ∧ m ≤ k) ∨ (0 ≤ k ∧ k < m) by omega) with q | ⟨q1, q⟩ | ⟨q1, q⟩
  · rw [if_neg (by omega), if_neg (by omega)]
    go_enter Try.func105, Try.ntmps105
    go_wp2_with fail
    go_ret2
    exact ⟨rfl, rfl⟩
  · rw [if_neg (by omega), if_neg (by omega)]
    go_enter Try.func105, Try.ntmps105
    go_wp2_with fail
    go_ret2
    exact ⟨rfl, rfl⟩
  · rw [if_pos ⟨q1, q⟩, if_pos ⟨q1, q⟩]
    have k1 : k ≤ 15 := by omega
    go_enter Try.func105, Try.ntmps105
    go_wp2_with fail
    go_ret2
    exact ⟨rfl, rfl⟩
theorem oref0_any {w : World} {b g cap : Nat} {L : List Int} (h : AreAt w b g cap L) (a k : Int) : Calls Try.prog 80 #[tp b, .int .i64 a, .int .i64 k] w fun e w' => e = .returned (.tuple #[.int .i64 (fldP L a k false), .int .i64 (fldE L a k false)]) ∧ Below w.heap.size w w' := by
  have HH := Lib.hid (ohead_any h a)
  have hmx := h.mx
  unfold shp tp at *
  by_cases h0 : headE L a = 0
  · obtain ⟨p, rfl, _, x1, x2, x3, x4, _, _⟩ := head_facts h0
    have HF := Lib.hid (fun w => ofield_any p k (headR L p) 0 (by omega) (by omega) (by omega) w)
    have e1 : fldE L p k false = if 0 ≤ k ∧ k < headR L p then 0 else 3 := by unfold fldE; rw [if_pos h0]; rfl
    have e2 : fldP L p k false = if 0 ≤ k ∧ k < headR L p then (p : Int) + 8 * (1 + 0 + k) else 0 := by
      unfold fldP; rw [e1]
      by_cases hq : 0 ≤ k ∧ k < headR L p
      · rw [if_pos hq, if_pos rfl, if_pos hq]; rfl
      · rw [if_neg hq, if_neg (by decide), if_neg hq]
    rw [e1, e2]
    rw [h0] at HH
    generalize (if 0 ≤ k ∧ k < headR L p then (p : Int) + 8 * (1 + 0 + k) else 0) = X at *
    generalize (if 0 ≤ k ∧ k < headR L p then (0 : Int) else 3) = Y at *
    generalize headR L p = r at *
    generalize headN L p = n at *
    clear e1 e2 h0 h x1 x2 x3 x4
    go_enter Try.func80, Try.ntmps80
    go_wp2_with fail
    refine HH.out.mono ?_
    rintro e w1 ⟨rfl, hb1⟩
    go_wp2_with fail
    refine (HF.out _).mono ?_
    rintro e w2 ⟨rfl, rfl⟩
    go_wp2_with fail
    go_ret2
    exact ⟨rfl, by (repeat' (first | exact Below.refl _ _ | assumption | refine b_alloc ?_ _ | refine b_over ?_ _ | refine b_drew ?_ | refine b_call ?_ (by assumption)))⟩
  · have e1 : fldE L a k false = headE L a := by unfold fldE; rw [if_neg h0]
    have e2 : fldP L a k false = 0 := by unfold fldP; rw [e1, if_neg h0]
    rw [e1, e2]
    generalize headR L a = r at *
    generalize headN L a = n at *
    generalize headE L a = E at *
    clear e1 e2 h
    go_enter Try.func80, Try.ntmps80
    go_wp2_with fail
    refine HH.out.mono ?_
    rintro e w1 ⟨rfl, hb1⟩
    go_wp2_with fail
    go_ret2
    exact ⟨rfl, by (repeat' (first | exact Below.refl _ _ | assumption | refine b_alloc ?_ _ | refine b_over ?_ _ | refine b_drew ?_ | refine b_call ?_ (by assumption)))⟩
theorem onum0_any {w : World} {b g cap : Nat} {L : List Int} (h : AreAt w b g cap L) (a k : Int) : Calls Try.prog 81 #[tp b, .int .i64 a, .int .i64 k] w fun e w' => e = .returned (.tuple #[.int .i64 (fldP L a k true), .int .i64 (fldE L a k true)]) ∧ Below w.heap.size w w' := by
  have HH := Lib.hid (ohead_any h a)
  have hmx := h.mx
  unfold shp tp at *
  by_cases h0 : headE L a = 0
  · obtain ⟨p, rfl, _, x1, x2, x3, x4, _, _⟩ := head_facts h0
    have HF := Lib.hid (fun w => ofield_any p k (headN L p) (headR L p) (by omega) (by omega) (by omega) w)
    have e1 : fldE L p k true = if 0 ≤ k ∧ k < headN L p then 0 else 3 := by unfold fldE; rw [if_pos h0]; rfl
    have e2 : fldP L p k true = if 0 ≤ k ∧ k < headN L p then (p : Int) + 8 * (1 + headR L p + k) else 0 := by
      unfold fldP; rw [e1]
      by_cases hq : 0 ≤ k ∧ k < headN L p
      · rw [if_pos hq, if_pos rfl, if_pos hq]; rfl
      · rw [if_neg hq, if_neg (by decide), if_neg hq]
    rw [e1, e2]
    rw [h0] at HH
    generalize (if 0 ≤ k ∧ k < headN L p then (p : Int) + 8 * (1 + headR L p + k) else 0) = X at *
    generalize (if 0 ≤ k ∧ k < headN L p then (0 : Int) else 3) = Y at *
    generalize headR L p = r at *
    generalize headN L p = n at *
    clear e1 e2 h0 h x1 x2 x3 x4
    go_enter Try.func81, Try.ntmps81
    go_wp2_with fail
    refine HH.out.mono ?_
    rintro e w1 ⟨rfl, hb1⟩
    go_wp2_with fail
    refine (HF.out _).mono ?_
    rintro e w2 ⟨rfl, rfl⟩
    go_wp2_with fail
    go_ret2
    exact ⟨rfl, by (repeat' (first | exact Below.refl _ _ | assumption | refine b_alloc ?_ _ | refine b_over ?_ _ | refine b_drew ?_ | refine b_call ?_ (by assumption)))⟩
  · have e1 : fldE L a k true = headE L a := by unfold fldE; rw [if_neg h0]
    have e2 : fldP L a k true = 0 := by unfold fldP; rw [e1, if_neg h0]
    rw [e1, e2]
    generalize headR L a = r at *
    generalize headN L a = n at *
    generalize headE L a = E at *
    clear e1 e2 h
    go_enter Try.func81, Try.ntmps81
    go_wp2_with fail
    refine HH.out.mono ?_
    rintro e w1 ⟨rfl, hb1⟩
    go_wp2_with fail
    go_ret2
    exact ⟨rfl, by (repeat' (first | exact Below.refl _ _ | assumption | refine b_alloc ?_ _ | refine b_over ?_ _ | refine b_drew ?_ | refine b_call ?_ (by assumption)))⟩
end Go.Proofs.Ytgbbnmjfkhconaa
