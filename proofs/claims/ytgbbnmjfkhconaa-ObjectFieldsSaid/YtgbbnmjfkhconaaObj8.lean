/- Layer 17's objects over an arena: Refs. Conditions: an arena as AreAt says. -/
import Derived.Test.YtgbbnmjfkhconaaObj7
import Derived.Test.YtgbbnmjfkhconaaAreZ
namespace Go.Proofs.Ytgbbnmjfkhconaa
open Go.RowKit
set_option linter.unusedVariables false
set_option linter.unusedSimpArgs false
attribute [local go_sem] over_cell over_frozen
def refsL (L : List Int) (a : Int) (n : Nat) : List Int := (List.range n).map (fun (k : Nat) => refV L a (k : Int))
theorem refsL_len (L : List Int) (a : Int) (n : Nat) : (refsL L a n).length = n := by unfold refsL; rw [List.length_map, List.length_range]
theorem refsL_succ (L : List Int) (a : Int) (n : Nat) : refsL L a (n + 1) = refsL L a n ++ [refV L a n] := by unfold refsL; rw [List.range_succ, List.map_append]; rfl
set_option maxRecDepth 100000 in
theorem orefs_any {w : World} {b g cap : Nat} {L : List Int} (h : AreAt w b g cap L) (a : Int) : Calls Try.prog 85 #[tp b, .int .i64 a] w fun e w' => ∃ v, e = .returned (.tuple #[v, .int .i64 (headE L a)]) ∧ OwnR i64E 3 w' w.heap.size v (refsL L a (headR L a).toNat) ∧ Below w.heap.size w w' := by
  have HH := Lib.hid (ohead_any h a)
  have HR := Lib.hid (fun (w1 : World) (h1 : AreAt w1 b g cap L) (k : Int) => oref_any h1 a k)
  have H := Lib.hid h
  unfold shp tp at *
  by_cases h0 : headE L a = 0
  case neg =>
    have e1 : headR L a = 0 := by
      unfold headR
      by_cases hq : hdOk L a = true
      · exfalso
        have hw := (of_decide_eq_true hq).1
        unfold headE at h0
        rw [if_pos hw, if_pos hq] at h0
        exact h0 rfl
      · rw [if_neg hq]
    rw [e1] at HH ⊢
    generalize headN L a = n at *
    generalize headE L a = E at *
    clear e1 h
    go_enter Try.func85, Try.ntmps85
    go_wp2_with fail
    refine HH.out.mono ?_
    rintro e w1 ⟨rfl, hb1⟩
    go_wp2_with fail
    go_ret2
    exact ⟨_, rfl, ownR_nil _ _, by (repeat' (first | exact Below.refl _ _ | assumption | refine b_alloc ?_ _ | refine b_over ?_ _ | refine b_drew ?_ | refine b_call ?_ (by assumption)))⟩
  case pos =>
    obtain ⟨p, rfl, _, x1, x2, x3, _⟩ := head_facts h0
    obtain ⟨R, hR⟩ : ∃ R : Nat, headR L p = R := ⟨(headR L p).toNat, by omega⟩
    rw [hR, Int.toNat_natCast]
    have hR15 : (R : Int) ≤ 15 := by omega
    have R0 : (0 : Int) ≤ R := by omega
    rw [h0, hR] at HH
    rw [h0]
    have HFE := Lib.hid (fun (k : Nat) (hk : k < R) => (show fldE L p k false = 0 by
      rcases fld_cases L p k false with ⟨q, _⟩ | ⟨_, q, _⟩ | ⟨_, _, _, q, _⟩
      · omega
      · exfalso; apply q; show 0 ≤ (k : Int) ∧ (k : Int) < headR L p; omega
      · exact q))
    generalize headN L p = n at *
    clear h0 h x1 x2 x3 hR
    go_enter Try.func85, Try.ntmps85
    go_wp2_with fail
    refine HH.out.mono ?_
    rintro e w1 ⟨rfl, hb1⟩
    have HB1 : Hid (Below w.heap.size w w1) := hb1
    clear hb1
    go_wp2_with fail
    have HB2 := Lib.hid (b_alloc HB1.out (.cells #[.int .i64 R, .int .i64 n] 25))
    go_loopw [8, 23] (fun v i wr => ∃ k : Nat, i = .int .i64 k ∧ k ≤ R ∧ Hid (OwnR i64E 3 wr w.heap.size v (refsL L p k)) ∧ Hid (Below w.heap.size w wr)) (fun _ i _ => R - (intOf i).toNat)
    case atStart => exact ⟨0, rfl, Nat.zero_le _, ownR_nil _ _, HB2.out⟩
    case round =>
      obtain ⟨k, rfl, hk, ho, hb⟩ := hrel
      obtain ⟨va, vc, rfl, _, _⟩ := readR_len (ownR_read ho.out)
      have hl := refsL_len L p k
      have k0 : (0 : Int) ≤ k := by omega
      by_cases hlt : k < R
      · have k1 : (k : Int) < R := by omega
        have k15 : (k : Int) < 15 := by omega
        have HX := Lib.hid (HR.out _ (are_below H.out hb.out) k)
        rw [HFE.out k hlt] at HX
        have HST := Lib.hid (refsL_succ L p k)
        generalize refV L p k = y at *
        have HL := Lib.hid hl
        have HLT := Lib.hid hlt
        clear hl hlt
        go_wp2_with fail
        refine HX.out.mono ?_
        rintro e w3 ⟨rfl, hb3⟩
        have HO3 := Lib.hid (ownR_below ho.out hb3)
        have HB3 := Lib.hid (b_call hb.out hb3)
        have HRN : Hid (ReadR i64E (w3.alloc (.cells #[.int .i64 y] 3)) (.slice (some ⟨w3.heap.size, 0, none⟩) 1 1) [y]) := readR_one (Nat.le_refl _) (by unfold maxLen; decide) (by simp) (fun j hj => by rw [World.cell?_alloc_new]; simp; rfl)
        clear hb3
        go_wp2_with (at_builtin; refine appendR (c := i64E) rowI64 rfl _ _ rfl w.heap.size _ (refsL L p k) rfl (ownR_alloc HO3.out _) _ [y] rfl HRN.out ?c1 ?c2 ?c3 ?_; (case c1 => (have := HL.out; simp; omega)); (case c2 => (have := HL.out; unfold maxLen; simp; omega)); (case c3 => (have := HB3.out.size; simp at this ⊢; omega)); intro v1 w4 hown4 hg4)
        have hb4 : Below w.heap.size w w4 := b_ownR (b_alloc HB3.out _) (ownR_alloc HO3.out _) hg4
        exact ⟨⟨k + 1, by go_num, HLT.out, by rw [HST.out]; exact hown4, hb4⟩, by simp only [intOf]; omega⟩
      · have e : k = R := by omega
        subst e
        clear hl
        go_wp2_with fail
        go_ret2
        exact ⟨_, rfl, ho.out, hb.out⟩
end Go.Proofs.Ytgbbnmjfkhconaa
