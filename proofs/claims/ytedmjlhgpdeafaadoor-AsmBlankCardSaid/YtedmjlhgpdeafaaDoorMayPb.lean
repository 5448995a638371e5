/- Layer 25: the program's own May. Conditions: what is asked reads as lists. -/
import Derived.Test.YtedmjlhgpdeafaaDoorMayPa
namespace Go.Proofs.YtedmjlhgpdeafaaDoor
open Go.RowKit
set_option linter.unusedVariables false
set_option linter.unusedSimpArgs false
attribute [local go_sem] over_cell over_frozen
theorem readI_sole (W : World) (T : TypeId) (r : Int) : ReadI (W.alloc (.cells #[.int .i64 r] T)) (.slice (some ⟨W.heap.size, 0, none⟩) 1 1) [r] := readR_I (readR_new (c := intE) W T r)
theorem readI_sole2 {W : World} {T : TypeId} {r : Int} {k : Nat} (hk : k = W.heap.size) : ReadI (W.alloc (.cells #[.int .i64 r] T)) (.slice (some ⟨k, 0, none⟩) 1 1) [r] := by rw [hk]; exact readI_sole W T r
set_option maxRecDepth 100000 in
set_option maxHeartbeats 1000000 in
theorem fmay_any (v : FnV) (f : FnM) (w : World) (h : DeepF w v f) : Calls Tryd.prog 61 #[.agg #[v.p.v, v.l.v, .int .i64 v.r, v.c.v]] w fun e w' => e = .returned (.bool (mayF f)) ∧ Below w.heap.size w w' := by
  obtain ⟨⟨pa, pn, pc⟩, ⟨la, ln, lc⟩, r, ⟨ca, cn, cc⟩⟩ := v
  obtain ⟨ps, ls, r', code⟩ := f
  obtain ⟨dp, dl, dr, dc⟩ := h
  simp only at dr
  subst dr
  obtain ⟨hp1, hp2, hp3⟩ := sli_cap (show ReadI w (.slice pa pn pc) ps from dp)
  subst hp3
  obtain ⟨hl1, hl2, hl3⟩ := sli_cap (show ReadI w (.slice la ln lc) ls from dl)
  subst hl3
  obtain ⟨hc1, hc2, hc3⟩ := slr_cap (show ReadR inE w (.slice ca cn cc) code from dc)
  subst hc3
  have hpm := cap_le hp2
  have hlm := cap_le hl2
  have hcm := cap_le hc2
  have HDP := Lib.hid (show ReadI w (.slice pa ps.length pc) ps from dp)
  have HDL := Lib.hid (show ReadI w (.slice la ls.length lc) ls from dl)
  have HDC := Lib.hid (show ReadR inE w (.slice ca code.length cc) code from dc)
  have HM2 : Hid (mayF ⟨ps, ls, r, code⟩ = (kindsB ps 8 && (kindsB ls (8 - ps.length) && (decide (0 ≤ r) && (decide (r ≤ 3) && (decide (1 ≤ code.length) && (decide (code.length ≤ 96) && codeB code))))))) := rfl
  clear dp dl dc hp2 hl2 hc2
  obtain ⟨t, ht⟩ : ∃ t, t = mayF ⟨ps, ls, r, code⟩ := ⟨_, rfl⟩
  rw [← ht]
  have HT := Lib.hid ht
  clear ht
  unfold Sl.v
  simp only
  by_cases c1 : 8 < ps.length
  · have c1' : (8 : Int) < ps.length := by omega
    obtain rfl : t = false := by rw [HT.out, HM2.out]; unfold kindsB; rw [decide_eq_false (show ¬ (ps.length : Int) ≤ 8 by omega)]; simp
    go_enter Tryd.func61, Tryd.ntmps61
    go_wp2_with fail
    go_quiet (fail)
    go_wp2_with fail
    go_ret
    exact ⟨rfl, b_drewN (b_alloc (Below.refl _ _) _) _⟩
  have c1' : (ps.length : Int) ≤ 8 := by omega
  have c1'' : ¬ (8 : Int) < ps.length := by omega
  by_cases c2 : (8 : Int) - ps.length < ls.length
  · obtain rfl : t = false := by rw [HT.out, HM2.out]; unfold kindsB; rw [decide_eq_false (show ¬ (ls.length : Int) ≤ 8 - ps.length by omega)]; simp
    go_enter Tryd.func61, Tryd.ntmps61
    go_wp2_with fail
    go_quiet (fail)
    go_wp2_with fail
    go_ret
    exact ⟨rfl, b_drewN (b_alloc (Below.refl _ _) _) _⟩
  by_cases c3 : code.length < 1
  · have c3' : (code.length : Int) < 1 := by omega
    obtain rfl : t = false := by rw [HT.out, HM2.out, decide_eq_false (show ¬ 1 ≤ code.length by omega)]; simp
    go_enter Tryd.func61, Tryd.ntmps61
    go_wp2_with fail
    go_quiet (fail)
    go_wp2_with fail
    go_ret
    exact ⟨rfl, b_drewN (b_alloc (Below.refl _ _) _) _⟩
  have c3' : ¬ (code.length : Int) < 1 := by omega
  by_cases c4 : 96 < code.length
  · have c4' : (96 : Int) < code.length := by omega
    obtain rfl : t = false := by rw [HT.out, HM2.out, decide_eq_false (show ¬ code.length ≤ 96 by omega)]; simp
    go_enter Tryd.func61, Tryd.ntmps61
    go_wp2_with fail
    go_quiet (fail)
    go_wp2_with fail
    go_ret
    exact ⟨rfl, b_drewN (b_alloc (Below.refl _ _) _) _⟩
  have c4' : ¬ (96 : Int) < code.length := by omega
  have HM3 : Hid (t = (ps.all kindB && (ls.all kindB && (kindB r && code.all mayI)))) := by
    show _ = _
    rw [HT.out, HM2.out, decide_eq_true (show 1 ≤ code.length by omega), decide_eq_true (show code.length ≤ 96 by omega), codeB_all]
    unfold kindsB
    rw [decide_eq_true c1', decide_eq_true (show (ls.length : Int) ≤ 8 - ps.length by omega)]
    unfold kindB
    simp [Bool.and_assoc]
  clear HT HM2
  go_enter Tryd.func61, Tryd.ntmps61
  go_wp2_with fail
  go_quiet (fail)
  go_wp2_with fail
  refine (right_any _ ps _ (readI_below HDP.out (b_drewN (b_alloc (Below.refl _ _) _) _))).mono ?_
  rintro e w' ⟨rfl, rfl⟩
  obtain ⟨t1, ht1⟩ : ∃ t, t = ps.all kindB := ⟨_, rfl⟩
  rw [← ht1]
  have HT1 := Lib.hid ht1
  clear ht1
  cases t1
  · obtain rfl : t = false := by rw [HM3.out, ← HT1.out]; rfl
    go_wp2_with fail
    go_ret
    exact ⟨rfl, b_drewN (b_alloc (Below.refl _ _) _) _⟩
  go_wp2_with fail
  refine (right_any _ ls _ (readI_below HDL.out (b_drewN (b_alloc (Below.refl _ _) _) _))).mono ?_
  rintro e w' ⟨rfl, rfl⟩
  obtain ⟨t2, ht2⟩ : ∃ t, t = ls.all kindB := ⟨_, rfl⟩
  rw [← ht2]
  have HT2 := Lib.hid ht2
  clear ht2
  cases t2
  · obtain rfl : t = false := by rw [HM3.out, ← HT1.out, ← HT2.out]; rfl
    go_wp2_with fail
    go_ret
    exact ⟨rfl, b_drewN (b_alloc (Below.refl _ _) _) _⟩
  go_wp2_with fail
  refine (right_any _ [r] _ ?hsole).mono ?_
  case hsole => exact readI_sole2 (by simp)
  rintro e w' ⟨rfl, rfl⟩
  obtain ⟨t3, ht3⟩ : ∃ t, t = [r].all kindB := ⟨_, rfl⟩
  rw [← ht3]
  have HT3 : Hid (t3 = kindB r) := by show _ = _; rw [ht3]; simp
  clear ht3
  cases t3
  · obtain rfl : t = false := by rw [HM3.out, ← HT1.out, ← HT2.out, ← HT3.out]; rfl
    go_wp2_with fail
    go_ret
    exact ⟨rfl, b_alloc (b_drewN (b_alloc (Below.refl _ _) _) _) _⟩
  go_wp2_with fail
  refine (contN_any _ code _ (readR_below HDC.out (b_alloc (b_drewN (b_alloc (Below.refl _ _) _) _) _))).mono ?_
  rintro e w1 ⟨rfl, hb1⟩
  obtain ⟨t4, ht4⟩ : ∃ t, t = code.all mayI := ⟨_, rfl⟩
  rw [← ht4]
  have HT4 := Lib.hid ht4
  have HB1 := Lib.hid (b_call (b_alloc (b_drewN (b_alloc (Below.refl _ _) _) _) _) hb1)
  clear ht4 hb1
  cases t4
  · obtain rfl : t = false := by rw [HM3.out, ← HT1.out, ← HT2.out, ← HT3.out, ← HT4.out]; rfl
    go_wp2_with fail
    go_ret
    exact ⟨rfl, HB1.out⟩
  · obtain rfl : t = true := by rw [HM3.out, ← HT1.out, ← HT2.out, ← HT3.out, ← HT4.out]; rfl
    go_wp2_with fail
    go_ret
    exact ⟨rfl, HB1.out⟩
end Go.Proofs.YtedmjlhgpdeafaaDoor
