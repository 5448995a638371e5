/- Layer 17's objects over an arena: Ref, Num, SetRef, SetNum, Make. Conditions: an arena as AreAt says. -/
import Derived.Test.YtgbbnmjfkhconaaObj3
namespace Go.Proofs.Ytgbbnmjfkhconaa
open Go.RowKit
set_option linter.unusedVariables false
set_option linter.unusedSimpArgs false
attribute [local go_sem] over_cell over_frozen
def refI (x : Int) : Int := wrap64 (wrap64 x - 1)
def refV (L : List Int) (a k : Int) : Int := if fldE L a k false = 0 then refI (getW L (fldP L a k false).toNat) else 0
def numV (L : List Int) (a k : Int) : Int := if fldE L a k true = 0 then getW L (fldP L a k true).toNat else 0
def srE (L : List Int) (a k t : Int) : Int := if fldE L a k false = 0 then (if t < -1 ∨ 2147483647 < t then 1 else 0) else fldE L a k false
def srL (L : List Int) (a k t : Int) : List Int := if srE L a k t = 0 then setW L (fldP L a k false) (t + 1) else L
def snL (L : List Int) (a k v : Int) : List Int := if fldE L a k true = 0 then setW L (fldP L a k true) v else L
def mkE (L : List Int) (a r n : Int) : Int := if okS r n = true then (if wordE L.length a = 0 then inE L.length a (bytS r n) else wordE L.length a) else 1
def mkL (L : List Int) (a r n : Int) : List Int := if mkE L a r n = 0 then setW (fillL L a (bytS r n) 0) a (wordS r n) else L
theorem oref_any {w : World} {b g cap : Nat} {L : List Int} (h : AreAt w b g cap L) (a k : Int) : Calls Try.prog 46 #[tp b, .int .i64 a, .int .i64 k] w fun e w' => e = .returned (.tuple #[.int .i64 (refV L a k), .int .i64 (fldE L a k false)]) ∧ Below w.heap.size w w' := by
  have H0 := Lib.hid (oref0_any h a k)
  have H := Lib.hid h
  unfold refV
  by_cases h0 : fldE L a k false = 0
  · obtain ⟨p, e1, h1, h2, h3⟩ := fld_word h0
    have HW := Lib.hid (fun (w1 : World) (h1 : AreAt w1 b g cap L) => aword_any h1 p)
    rw [e1] at h3 H0 ⊢
    rw [if_pos h0, h0]
    rw [h0] at H0
    simp only [if_pos h3, h3, Int.toNat_natCast] at HW ⊢
    have hb := getW_lt h.by_ p
    generalize getW L p = W at *
    unfold tp at *
    have p0 : (p : Int) ≤ 65536 := by have := h.mx; omega
    clear h0 e1 h1 h2 h3 h
    unfold refI
    go_enter Try.func46, Try.ntmps46
    go_wp2_with fail
    refine H0.out.mono ?_
    rintro e w1 ⟨rfl, hb1⟩
    go_wp2_with fail
    refine (HW.out _ (are_below H.out hb1)).mono ?_
    rintro e w2 ⟨rfl, rfl⟩
    go_wp2_with fail
    go_ret2
    exact ⟨rfl, hb1⟩
  · rw [if_neg h0]
    generalize fldE L a k false = E at *
    generalize fldP L a k false = X at *
    unfold tp at *
    clear h
    go_enter Try.func46, Try.ntmps46
    go_wp2_with fail
    refine H0.out.mono ?_
    rintro e w1 ⟨rfl, hb1⟩
    go_wp2_with fail
    go_ret2
    exact ⟨rfl, hb1⟩
theorem onum_any {w : World} {b g cap : Nat} {L : List Int} (h : AreAt w b g cap L) (a k : Int) : Calls Try.prog 47 #[tp b, .int .i64 a, .int .i64 k] w fun e w' => e = .returned (.tuple #[.int .u64 (numV L a k), .int .i64 (fldE L a k true)]) ∧ Below w.heap.size w w' := by
  have H0 := Lib.hid (onum0_any h a k)
  have H := Lib.hid h
  unfold numV
  by_cases h0 : fldE L a k true = 0
  · obtain ⟨p, e1, h1, h2, h3⟩ := fld_word h0
    have HW := Lib.hid (fun (w1 : World) (h1 : AreAt w1 b g cap L) => aword_any h1 p)
    rw [e1] at h3 H0 ⊢
    rw [if_pos h0, h0]
    rw [h0] at H0
    simp only [if_pos h3, h3, Int.toNat_natCast] at HW ⊢
    have hb := getW_lt h.by_ p
    generalize getW L p = W at *
    unfold tp at *
    have p0 : (p : Int) ≤ 65536 := by have := h.mx; omega
    clear h0 e1 h1 h2 h3 h
    go_enter Try.func47, Try.ntmps47
    go_wp2_with fail
    refine H0.out.mono ?_
    rintro e w1 ⟨rfl, hb1⟩
    go_wp2_with fail
    refine (HW.out _ (are_below H.out hb1)).mono ?_
    rintro e w2 ⟨rfl, rfl⟩
    go_wp2_with fail
    go_ret2
    exact ⟨rfl, hb1⟩
  · rw [if_neg h0]
    generalize fldE L a k true = E at *
    generalize fldP L a k true = X at *
    unfold tp at *
    clear h
    go_enter Try.func47, Try.ntmps47
    go_wp2_with fail
    refine H0.out.mono ?_
    rintro e w1 ⟨rfl, hb1⟩
    go_wp2_with fail
    go_ret2
    exact ⟨rfl, hb1⟩
theorem osetnum_any {w : World} {b g cap : Nat} {L : List Int} (h : AreAt w b g cap L) (a k v : Int) (hv : 0 ≤ v ∧ v < 18446744073709551616) : Calls Try.prog 45 #[tp b, .int .i64 a, .int .i64 k, .int .u64 v] w fun e w' => e = .returned (.int .i64 (fldE L a k true)) ∧ AreAt w' b g cap (snL L a k v) ∧ w.grownBy w' (some g) := by
  have H0 := Lib.hid (onum0_any h a k)
  have H := Lib.hid h
  unfold snL
  by_cases h0 : fldE L a k true = 0
  · obtain ⟨p, e1, h1, h2, h3⟩ := fld_word h0
    have HW := Lib.hid (fun (w1 : World) (h1 : AreAt w1 b g cap L) => asetw_any h1 p v hv.1 hv.2)
    rw [e1] at h3 H0 ⊢
    rw [if_pos h0, h0]
    rw [h0] at H0
    rw [h3] at HW
    unfold tp at *
    have p0 : (p : Int) ≤ 65536 := by have := h.mx; omega
    clear h0 e1 h1 h2 h3 h hv
    go_enter Try.func45, Try.ntmps45
    go_wp2_with fail
    refine H0.out.mono ?_
    rintro e w1 ⟨rfl, hb1⟩
    go_wp2_with fail
    refine (HW.out _ (are_below H.out hb1)).mono ?_
    rintro e w2 ⟨rfl, A2, G2⟩
    go_wp2_with fail
    go_ret
    exact ⟨rfl, A2, below_gb hb1 G2⟩
  · rw [if_neg h0]
    generalize fldE L a k true = E at *
    generalize fldP L a k true = X at *
    unfold tp at *
    clear h hv
    go_enter Try.func45, Try.ntmps45
    go_wp2_with fail
    refine H0.out.mono ?_
    rintro e w1 ⟨rfl, hb1⟩
    go_wp2_with fail
    go_ret
    exact ⟨rfl, are_below H.out hb1, gb_of hb1 _⟩
theorem osetref_any {w : World} {b g cap : Nat} {L : List Int} (h : AreAt w b g cap L) (a k t : Int) : Calls Try.prog 44 #[tp b, .int .i64 a, .int .i64 k, .int .i64 t] w fun e w' => e = .returned (.int .i64 (srE L a k t)) ∧ AreAt w' b g cap (srL L a k t) ∧ w.grownBy w' (some g) := by
  have H0 := Lib.hid (oref0_any h a k)
  have H := Lib.hid h
  unfold srL
  by_cases h0 : fldE L a k false = 0
  · obtain ⟨p, e1, h1, h2, h3⟩ := fld_word h0
    rw [e1] at h3 H0 ⊢
    rw [h0] at H0
    have p0 : (p : Int) ≤ 65536 := by have := h.mx; omega
    rcases (show t < -1 ∨ (-1 ≤ t ∧ 2147483647 < t) ∨ (-1 ≤ t ∧ t ≤ 2147483647) by omega) with q | ⟨q1, q⟩ | ⟨q1, q⟩
    case inr.inr =>
      have HW := Lib.hid (fun (w1 : World) (h1 : AreAt w1 b g cap L) => asetw_any h1 p (t + 1) (by omega) (by omega))
      rw [h3] at HW
      have e2 : srE L a k t = 0 := by unfold srE; rw [if_pos h0, if_neg (by omega)]
      rw [if_pos e2, e2]
      unfold tp at *
      clear h0 e1 e2 h1 h2 h3 h
      go_enter Try.func44, Try.ntmps44
      go_wp2_with fail
      refine H0.out.mono ?_
      rintro e w1 ⟨rfl, hb1⟩
      go_wp2_with fail
      refine (HW.out _ (are_below H.out hb1)).mono ?_
      rintro e w2 ⟨rfl, A2, G2⟩
      go_wp2_with fail
      go_ret
      exact ⟨rfl, A2, below_gb hb1 G2⟩
    all_goals
      have e2 : srE L a k t = 1 := by unfold srE; rw [if_pos h0, if_pos (by omega)]
      rw [if_neg (by omega), e2]
      unfold tp at *
      clear h0 e1 e2 h1 h2 h3 h
      go_enter Try.func44, Try.ntmps44
      go_wp2_with fail
      refine H0.out.mono ?_
      rintro e w1 ⟨rfl, hb1⟩
      go_wp2_with fail
      go_ret
      exact ⟨rfl, are_below H.out hb1, gb_of hb1 _⟩
  · have e2 : srE L a k t = fldE L a k false := by unfold srE; rw [if_neg h0]
    rw [e2, if_neg h0]
    generalize fldE L a k false = E at *
    generalize fldP L a k false = X at *
    unfold tp at *
    clear h e2
    go_enter Try.func44, Try.ntmps44
    go_wp2_with fail
    refine H0.out.mono ?_
    rintro e w1 ⟨rfl, hb1⟩
    go_wp2_with fail
    go_ret
    exact ⟨rfl, are_below H.out hb1, gb_of hb1 _⟩
end Go.Proofs.Ytgbbnmjfkhconaa
