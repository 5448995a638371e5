/- Layer 25: the program's own May. Conditions: what is asked reads as lists. Layer 25: the program's own May. Conditions: what is asked reads as lists. Layer 25: the program's own May. Conditions: what is asked reads as lists. -/
import Derived.Test.YtedmjlhgpdeafaaDoorQMayR25
namespace Go.Proofs.YtedmjlhgpdeafaaDoor
section
open Go.RowKit
set_option linter.unusedVariables false
set_option linter.unusedSimpArgs false
attribute [local go_sem] over_cell over_frozen
theorem right1_any (x : Int) (w : World) : Calls Tryd.prog 80 #[.int .i64 x] w fun e w' => e = .returned (.bool (!kindB x)) ∧ w = w' := by
  by_cases h1 : x < 0
  · have e : kindB x = false := by unfold kindB; rw [decide_eq_false (by omega)]; rfl
    rw [e]; clear e
    go_enter Tryd.func80, Tryd.ntmps80
    go_wp2_with fail
    go_ret
    exact ⟨rfl, rfl⟩
  · by_cases h2 : 4 ≤ x
    · have e : kindB x = false := by unfold kindB; rw [decide_eq_false (show ¬ x ≤ 3 by omega)]; simp
      rw [e]; clear e
      go_enter Tryd.func80, Tryd.ntmps80
      go_wp2_with fail
      go_ret
      exact ⟨rfl, rfl⟩
    · have e : kindB x = true := by unfold kindB; rw [decide_eq_true (show x ≤ 3 by omega), decide_eq_true (show 0 ≤ x by omega)]; rfl
      rw [e]; clear e
      go_enter Tryd.func80, Tryd.ntmps80
      go_wp2_with fail
      go_ret
      exact ⟨rfl, rfl⟩
/-- A place at which something does not hold, or -1. -/
def IdxEnd (b : Bool) (W : World) (e : Ending) (w' : World) : Prop := ∃ i : Int, e = .returned (.int .i64 i) ∧ ((b = true ∧ i = -1) ∨ (b = false ∧ 0 ≤ i)) ∧ Below W.heap.size W w'
def IdxEnd0 (b : Bool) (W : World) (e : Ending) (w' : World) : Prop := ∃ i : Int, e = .returned (.int .i64 i) ∧ ((b = true ∧ i = -1) ∨ (b = false ∧ 0 ≤ i)) ∧ W = w'
set_option maxHeartbeats 800000 in
theorem idxI_any (u : Value) (xs : List Int) (w : World) (h : ReadI w u xs) : Calls Tryd.prog 97 #[u, .func (.func 80) #[] #[]] w (IdxEnd0 (xs.all kindB) w) := by
  obtain ⟨a, cap, rfl⟩ := readI_len h
  have hl : (xs.length : Int) ≤ 9223372036854775807 := by
    obtain ⟨_, _, e, h1, h2, _⟩ := h; have := cap_le h2; omega
  have H := Lib.hid h
  clear h
  go_enter Tryd.func97, Tryd.ntmps97
  go_wp2_with fail
  go_loopw [8] (fun i wr => ∃ k : Nat, k ≤ xs.length ∧ i = .int .i64 k ∧ wr = w ∧ Hid ((xs.take k).all kindB = true)) (fun i _ => xs.length - (intOf i).toNat)
  case atStart => exact ⟨0, Nat.zero_le _, rfl, rfl, rfl⟩
  case round =>
    obtain ⟨k, hk, rfl, rfl, hp⟩ := hrel
    have k0 : (0 : Int) ≤ k := by omega
    by_cases hlt : k < xs.length
    · obtain ⟨bl, off, cp, e1, r1, r2, hbl, r4⟩ := readI_pos H.out (by omega)
      cases e1
      have k1 : (k : Int) < xs.length := by omega
      have hc := r4 k hlt
      have HF : Hid (kindB xs[k] = false → xs.all kindB = false) := fun q => all_false hlt q
      have HT : Hid (kindB xs[k] = true → (xs.take (k + 1)).all kindB = true) := fun q => all_take hlt hp.out q
      rw [List.getD_eq_getElem?_getD, List.getElem?_eq_getElem hlt, Option.getD_some] at hc
      generalize xs[k] = x at *
      clear r4
      go_wp2_with fail
      refine (right1_any x _).mono ?_
      rintro e w' ⟨rfl, rfl⟩
      obtain ⟨t, ht⟩ : ∃ t, t = kindB x := ⟨_, rfl⟩
      rw [← ht]
      have HK := Lib.hid ht
      clear ht
      cases t
      · go_wp2_with fail
        go_ret
        exact ⟨_, rfl, Or.inr ⟨HF.out HK.out.symm, k0⟩, rfl⟩
      · go_wp2_with fail
        go_roundw
        case rel => exact ⟨k + 1, by omega, by first | rfl | trivial | go_num, by first | trivial | rfl, HT.out HK.out.symm⟩
        case measure => simp [intOf]; omega
    · have hall : xs.all kindB = true := by have q := hp.out; rw [List.take_of_length_le (by omega)] at q; exact q
      have HALL := Lib.hid hall
      clear hall hp
      go_wp2_with fail
      go_ret
      exact ⟨_, rfl, Or.inl ⟨HALL.out, rfl⟩, rfl⟩
theorem contI_any (u : Value) (xs : List Int) (w : World) (h : ReadI w u xs) : Calls Tryd.prog 79 #[u, .func (.func 80) #[] #[]] w fun e w' => e = .returned (.bool (!(xs.all kindB))) ∧ w = w' := by
  obtain ⟨t, ht⟩ : ∃ t, t = xs.all kindB := ⟨_, rfl⟩
  rw [← ht]
  have HT := Lib.hid ht
  clear ht
  go_enter Tryd.func79, Tryd.ntmps79
  go_wp2_with fail
  refine (idxI_any _ xs _ h).mono ?_
  rintro e w' ⟨i, rfl, hi, rfl⟩
  rw [← HT.out] at hi
  cases t
  · have hi : 0 ≤ i := by simpa using hi
    go_wp2_with fail
    go_ret
    exact ⟨rfl, rfl⟩
  · have hi : i = -1 := by simpa using hi
    subst hi
    go_wp2_with fail
    go_ret
    exact ⟨rfl, rfl⟩
theorem right_any (u : Value) (xs : List Int) (w : World) (h : ReadI w u xs) : Calls Tryd.prog 58 #[u] w fun e w' => e = .returned (.bool (xs.all kindB)) ∧ w = w' := by
  obtain ⟨t, ht⟩ : ∃ t, t = xs.all kindB := ⟨_, rfl⟩
  rw [← ht]
  have HT := Lib.hid ht
  clear ht
  go_enter Tryd.func58, Tryd.ntmps58
  go_wp2_with fail
  refine (contI_any _ xs _ h).mono ?_
  rintro e w' ⟨rfl, rfl⟩
  rw [← HT.out]
  cases t
  · go_wp2_with fail
    go_ret
    exact ⟨rfl, rfl⟩
  · go_wp2_with fail
    go_ret
    exact ⟨rfl, rfl⟩
def mayI (i : In4) : Bool := mayB i.op i.x i.a i.b
theorem codeB_all (c : List In4) : codeB c = c.all mayI := rfl
theorem fmay1_any (op x a b : Int) (w : World) : Calls Tryd.prog 83 #[.agg #[.int .i64 op, .int .u64 x, .int .i64 a, .int .i64 b]] w fun e w' => e = .returned (.bool (!mayI ⟨op, x, a, b⟩)) ∧ Below w.heap.size w w' := by
  unfold mayI
  obtain ⟨t, ht⟩ : ∃ t, t = mayB op x a b := ⟨_, rfl⟩
  simp only
  rw [← ht]
  have HT := Lib.hid ht
  clear ht
  go_enter Tryd.func83, Tryd.ntmps83
  go_wp2_with fail
  refine (may_any op x a b _).mono ?_
  rintro e w' ⟨rfl, hb⟩
  rw [← HT.out]
  have HB := Lib.hid (b_call (b_alloc (Below.refl _ _) _) hb)
  clear hb
  cases t
  · go_wp2_with fail
    go_ret
    exact ⟨rfl, HB.out⟩
  · go_wp2_with fail
    go_ret
    exact ⟨rfl, HB.out⟩
set_option maxHeartbeats 800000 in
theorem idxN_any (u : Value) (xs : List In4) (w : World) (h : ReadR inE w u xs) : Calls Tryd.prog 98 #[u, .func (.func 83) #[] #[]] w (IdxEnd (xs.all mayI) w) := by
  obtain ⟨a, cap, rfl, _⟩ := readR_len h
  have hl : (xs.length : Int) ≤ 9223372036854775807 := by
    obtain ⟨_, _, e, h1, h2, _⟩ := h; have := cap_le h2; omega
  have H := Lib.hid h
  clear h
  go_enter Tryd.func98, Tryd.ntmps98
  go_wp2_with fail
  go_loopw [8] (fun i wr => ∃ k : Nat, k ≤ xs.length ∧ i = .int .i64 k ∧ Hid (Below w.heap.size w wr) ∧ Hid ((xs.take k).all mayI = true)) (fun i _ => xs.length - (intOf i).toNat)
  case atStart => exact ⟨0, Nat.zero_le _, rfl, Below.refl _ _, rfl⟩
  case round =>
    obtain ⟨k, hk, rfl, hb, hp⟩ := hrel
    have k0 : (0 : Int) ≤ k := by omega
    by_cases hlt : k < xs.length
    · obtain ⟨bl, off, cp, e1, r1, r2, hbl, r4⟩ := readR_pos H.out (by omega)
      cases e1
      have k1 : (k : Int) < xs.length := by omega
      have hc := in_cells r4 k hlt
      rw [← (bcell hb.out).1 _ _ hbl, ← (bcell hb.out).1 _ _ hbl, ← (bcell hb.out).1 _ _ hbl, ← (bcell hb.out).1 _ _ hbl] at hc
      have HF : Hid (mayI xs[k] = false → xs.all mayI = false) := fun q => all_false hlt q
      have HT : Hid (mayI xs[k] = true → (xs.take (k + 1)).all mayI = true) := fun q => all_take hlt hp.out q
      generalize xs[k] = x at *
      obtain ⟨iop, ix, ia, ib⟩ := x
      simp only at hc
      obtain ⟨c0, c1, c2, c3⟩ := hc
      clear r4
      go_wp2_with fail
      refine (fmay1_any iop ix ia ib _).mono ?_
      rintro e w' ⟨rfl, hb1⟩
      obtain ⟨t, ht⟩ : ∃ t, t = mayI ⟨iop, ix, ia, ib⟩ := ⟨_, rfl⟩
      rw [← ht]
      have HK := Lib.hid ht
      have HB1 := Lib.hid (b_call hb.out hb1)
      clear ht hb1
      cases t
      · go_wp2_with fail
        go_ret
        exact ⟨_, rfl, Or.inr ⟨HF.out HK.out.symm, k0⟩, HB1.out⟩
      · go_wp2_with fail
        go_roundw
        case rel => exact ⟨k + 1, by omega, by first | rfl | trivial | go_num, HB1.out, HT.out HK.out.symm⟩
        case measure => simp [intOf]; omega
    · have hall : xs.all mayI = true := by have q := hp.out; rw [List.take_of_length_le (by omega)] at q; exact q
      have HALL := Lib.hid hall
      clear hall hp
      go_wp2_with fail
      go_ret
      exact ⟨_, rfl, Or.inl ⟨HALL.out, rfl⟩, hb.out⟩
theorem contN_any (u : Value) (xs : List In4) (w : World) (h : ReadR inE w u xs) : Calls Tryd.prog 82 #[u, .func (.func 83) #[] #[]] w fun e w' => e = .returned (.bool (!(xs.all mayI))) ∧ Below w.heap.size w w' := by
  obtain ⟨t, ht⟩ : ∃ t, t = xs.all mayI := ⟨_, rfl⟩
  rw [← ht]
  have HT := Lib.hid ht
  clear ht
  go_enter Tryd.func82, Tryd.ntmps82
  go_wp2_with fail
  refine (idxN_any _ xs _ h).mono ?_
  rintro e w' ⟨i, rfl, hi, hb⟩
  rw [← HT.out] at hi
  cases t
  · have hi : 0 ≤ i := by simpa using hi
    go_wp2_with fail
    go_ret
    exact ⟨rfl, hb⟩
  · have hi : i = -1 := by simpa using hi
    subst hi
    go_wp2_with fail
    go_ret
    exact ⟨rfl, hb⟩
end
section
open Go.RowKit
set_option linter.unusedVariables false
set_option linter.unusedSimpArgs false
attribute [local go_sem] over_cell over_frozen
theorem readI_sole (W : World) (T : TypeId) (r : Int) : ReadI (W.alloc (.cells #[.int .i64 r] T)) (.slice (some ⟨W.heap.size, 0, none⟩) 1 1) [r] := readR_I (readR_new (c := intE) W T r)
theorem readI_sole2 {W : World} {T : TypeId} {r : Int} {k : Nat} (hk : k = W.heap.size) : ReadI (W.alloc (.cells #[.int .i64 r] T)) (.slice (some ⟨k, 0, none⟩) 1 1) [r] := by rw [hk]; exact readI_sole W T r
set_option maxRecDepth 100000 in
set_option maxHeartbeats 1000000 in
theorem fmay_any (v : FnV) (f : FnM) (w : World) (h : DeepF w v f) : Calls Tryd.prog 61 #[.agg #[v.p.v, v.l.v, .int .i64 v.r, v.c.v]] w fun e w' => e = .returned (.bool (mayF f)) ∧ Below w.heap.size w w' := by
  obtain ⟨⟨pa, pn, pc⟩, ⟨la, ln, lc⟩, r, ⟨ca, cn, cc⟩⟩ := v
  obtain ⟨ps, ls, r', code⟩ := f
  obtain ⟨dp, dl, dr, dc⟩ := h
  simp only at dr
  subst dr
  obtain ⟨hp1, hp2, hp3⟩ := sli_cap (show ReadI w (.slice pa pn pc) ps from dp)
  subst hp3
  obtain ⟨hl1, hl2, hl3⟩ := sli_cap (show ReadI w (.slice la ln lc) ls from dl)
  subst hl3
  obtain ⟨hc1, hc2, hc3⟩ := slr_cap (show ReadR inE w (.slice ca cn cc) code from dc)
  subst hc3
  have hpm := cap_le hp2
  have hlm := cap_le hl2
  have hcm := cap_le hc2
  have HDP := Lib.hid (show ReadI w (.slice pa ps.length pc) ps from dp)
  have HDL := Lib.hid (show ReadI w (.slice la ls.length lc) ls from dl)
  have HDC := Lib.hid (show ReadR inE w (.slice ca code.length cc) code from dc)
  have HM2 : Hid (mayF ⟨ps, ls, r, code⟩ = (kindsB ps 8 && (kindsB ls (8 - ps.length) && (decide (0 ≤ r) && (decide (r ≤ 3) && (decide (1 ≤ code.length) && (decide (code.length ≤ 96) && codeB code))))))) := rfl
  clear dp dl dc hp2 hl2 hc2
  obtain ⟨t, ht⟩ : ∃ t, t = mayF ⟨ps, ls, r, code⟩ := ⟨_, rfl⟩
  rw [← ht]
  have HT := Lib.hid ht
  clear ht
  unfold Sl.v
  simp only
  by_cases c1 : 8 < ps.length
  · have c1' : (8 : Int) < ps.length := by omega
    obtain rfl : t = false := by rw [HT.out, HM2.out]; unfold kindsB; rw [decide_eq_false (show ¬ (ps.length : Int) ≤ 8 by omega)]; simp
    go_enter Tryd.func61, Tryd.ntmps61
    go_wp2_with fail
    go_quiet (fail)
    go_wp2_with fail
    go_ret
    exact ⟨rfl, b_drewN (b_alloc (Below.refl _ _) _) _⟩
  have c1' : (ps.length : Int) ≤ 8 := by omega
  have c1'' : ¬ (8 : Int) < ps.length := by omega
  by_cases c2 : (8 : Int) - ps.length < ls.length
  · obtain rfl : t = false := by rw [HT.out, HM2.out]; unfold kindsB; rw [decide_eq_false (show ¬ (ls.length : Int) ≤ 8 - ps.length by omega)]; simp
    go_enter Tryd.func61, Tryd.ntmps61
    go_wp2_with fail
    go_quiet (fail)
    go_wp2_with fail
    go_ret
    exact ⟨rfl, b_drewN (b_alloc (Below.refl _ _) _) _⟩
  by_cases c3 : code.length < 1
  · have c3' : (code.length : Int) < 1 := by omega
    obtain rfl : t = false := by rw [HT.out, HM2.out, decide_eq_false (show ¬ 1 ≤ code.length by omega)]; simp
    go_enter Tryd.func61, Tryd.ntmps61
    go_wp2_with fail
    go_quiet (fail)
    go_wp2_with fail
    go_ret
    exact ⟨rfl, b_drewN (b_alloc (Below.refl _ _) _) _⟩
  have c3' : ¬ (code.length : Int) < 1 := by omega
  by_cases c4 : 96 < code.length
  · have c4' : (96 : Int) < code.length := by omega
    obtain rfl : t = false := by rw [HT.out, HM2.out, decide_eq_false (show ¬ code.length ≤ 96 by omega)]; simp
    go_enter Tryd.func61, Tryd.ntmps61
    go_wp2_with fail
    go_quiet (fail)
    go_wp2_with fail
    go_ret
    exact ⟨rfl, b_drewN (b_alloc (Below.refl _ _) _) _⟩
  have c4' : ¬ (96 : Int) < code.length := by omega
  have HM3 : Hid (t = (ps.all kindB && (ls.all kindB && (kindB r && code.all mayI)))) := by
    show _ = _
    rw [HT.out, HM2.out, decide_eq_true (show 1 ≤ code.length by omega), decide_eq_true (show code.length ≤ 96 by omega), codeB_all]
    unfold kindsB
    rw [decide_eq_true c1', decide_eq_true (show (ls.length : Int) ≤ 8 - ps.length by omega)]
    unfold kindB
    simp [Bool.and_assoc]
  clear HT HM2
  go_enter Tryd.func61, Tryd.ntmps61
  go_wp2_with fail
  go_quiet (fail)
  go_wp2_with fail
  refine (right_any _ ps _ (readI_below HDP.out (b_drewN (b_alloc (Below.refl _ _) _) _))).mono ?_
  rintro e w' ⟨rfl, rfl⟩
  obtain ⟨t1, ht1⟩ : ∃ t, t = ps.all kindB := ⟨_, rfl⟩
  rw [← ht1]
  have HT1 := Lib.hid ht1
  clear ht1
  cases t1
  · obtain rfl : t = false := by rw [HM3.out, ← HT1.out]; rfl
    go_wp2_with fail
    go_ret
    exact ⟨rfl, b_drewN (b_alloc (Below.refl _ _) _) _⟩
  go_wp2_with fail
  refine (right_any _ ls _ (readI_below HDL.out (b_drewN (b_alloc (Below.refl _ _) _) _))).mono ?_
  rintro e w' ⟨rfl, rfl⟩
  obtain ⟨t2, ht2⟩ : ∃ t, t = ls.all kindB := ⟨_, rfl⟩
  rw [← ht2]
  have HT2 := Lib.hid ht2
  clear ht2
  cases t2
  · obtain rfl : t = false := by rw [HM3.out, ← HT1.out, ← HT2.out]; rfl
    go_wp2_with fail
    go_ret
    exact ⟨rfl, b_drewN (b_alloc (Below.refl _ _) _) _⟩
  go_wp2_with fail
  refine (right_any _ [r] _ ?hsole).mono ?_
  case hsole => exact readI_sole2 (by simp)
  rintro e w' ⟨rfl, rfl⟩
  obtain ⟨t3, ht3⟩ : ∃ t, t = [r].all kindB := ⟨_, rfl⟩
  rw [← ht3]
  have HT3 : Hid (t3 = kindB r) := by show _ = _; rw [ht3]; simp
  clear ht3
  cases t3
  · obtain rfl : t = false := by rw [HM3.out, ← HT1.out, ← HT2.out, ← HT3.out]; rfl
    go_wp2_with fail
    go_ret
    exact ⟨rfl, b_alloc (b_drewN (b_alloc (Below.refl _ _) _) _) _⟩
  go_wp2_with fail
  refine (contN_any _ code _ (readR_below HDC.out (b_alloc (b_drewN (b_alloc (Below.refl _ _) _) _) _))).mono ?_
  rintro e w1 ⟨rfl, hb1⟩
  obtain ⟨t4, ht4⟩ : ∃ t, t = code.all mayI := ⟨_, rfl⟩
  rw [← ht4]
  have HT4 := Lib.hid ht4
  have HB1 := Lib.hid (b_call (b_alloc (b_drewN (b_alloc (Below.refl _ _) _) _) _) hb1)
  clear ht4 hb1
  cases t4
  · obtain rfl : t = false := by rw [HM3.out, ← HT1.out, ← HT2.out, ← HT3.out, ← HT4.out]; rfl
    go_wp2_with fail
    go_ret
    exact ⟨rfl, HB1.out⟩
  · obtain rfl : t = true := by rw [HM3.out, ← HT1.out, ← HT2.out, ← HT3.out, ← HT4.out]; rfl
    go_wp2_with fail
    go_ret
    exact ⟨rfl, HB1.out⟩
end
section
open Go.RowKit
set_option linter.unusedVariables false
set_option linter.unusedSimpArgs false
attribute [local go_sem] over_cell over_frozen
theorem pmay1_any (v : FnV) (f : FnM) (w : World) (h : DeepF w v f) : Calls Tryd.prog 60 #[.agg #[v.p.v, v.l.v, .int .i64 v.r, v.c.v]] w fun e w' => e = .returned (.bool (!mayF f)) ∧ Below w.heap.size w w' := by
  obtain ⟨t, ht⟩ : ∃ t, t = mayF f := ⟨_, rfl⟩
  rw [← ht]
  have HT := Lib.hid ht
  have H := Lib.hid h
  clear ht h
  go_enter Tryd.func60, Tryd.ntmps60
  go_wp2_with fail
  refine (fmay_any v f _ (deepF_below H.out (b_alloc (Below.refl _ _) _))).mono ?_
  rintro e w' ⟨rfl, hb⟩
  rw [← HT.out]
  have HB := Lib.hid (b_call (b_alloc (Below.refl _ _) _) hb)
  clear hb
  cases t
  · go_wp2_with fail
    go_ret
    exact ⟨rfl, HB.out⟩
  · go_wp2_with fail
    go_ret
    exact ⟨rfl, HB.out⟩
set_option maxHeartbeats 800000 in
theorem idxF_any (u : Value) (fs : List FnM) (w : World) (h : ReadFs w u fs) : Calls Tryd.prog 81 #[u, .func (.func 60) #[] #[]] w (IdxEnd (fs.all mayF) w) := by
  obtain ⟨L, hL, hA⟩ := h
  obtain ⟨a, cap, rfl, _⟩ := readR_len hL
  have hl : (L.length : Int) ≤ 9223372036854775807 := by
    obtain ⟨_, _, e, h1, h2, _⟩ := hL; have := cap_le h2; omega
  have HL := Lib.hid hL
  have HA := Lib.hid hA
  have HFL := Lib.hid (allF_len hA)
  clear hL hA
  go_enter Tryd.func81, Tryd.ntmps81
  go_wp2_with fail
  go_loopw [8] (fun i wr => ∃ k : Nat, k ≤ L.length ∧ i = .int .i64 k ∧ Hid (Below w.heap.size w wr) ∧ Hid ((fs.take k).all mayF = true)) (fun i _ => L.length - (intOf i).toNat)
  case atStart => exact ⟨0, Nat.zero_le _, rfl, Below.refl _ _, rfl⟩
  case round =>
    obtain ⟨k, hk, rfl, hb, hp⟩ := hrel
    have k0 : (0 : Int) ≤ k := by omega
    by_cases hlt : k < L.length
    · obtain ⟨bl, off, cp, e1, r1, r2, hbl, r4⟩ := readR_pos HL.out (by omega)
      cases e1
      have k1 : (k : Int) < L.length := by omega
      have hc := fn_cells r4 k hlt
      rw [← (bcell hb.out).1 _ _ hbl, ← (bcell hb.out).1 _ _ hbl, ← (bcell hb.out).1 _ _ hbl, ← (bcell hb.out).1 _ _ hbl] at hc
      have kf : k < fs.length := by rw [← HFL.out]; exact hlt
      have DF := Lib.hid (allF_at HA.out k hlt kf)
      have HF : Hid (mayF fs[k] = false → fs.all mayF = false) := fun q => all_false kf q
      have HT : Hid (mayF fs[k] = true → (fs.take (k + 1)).all mayF = true) := fun q => all_take kf hp.out q
      generalize fs[k] = f at *
      generalize L[k] = x at *
      obtain ⟨⟨pa, pn, pc⟩, ⟨la, ln, lc⟩, r, ⟨ca, cn, cc⟩⟩ := x
      simp only at hc
      obtain ⟨c0, c1, c2, c3⟩ := hc
      clear r4
      go_wp2_with fail
      refine (pmay1_any ⟨⟨pa, pn, pc⟩, ⟨la, ln, lc⟩, r, ⟨ca, cn, cc⟩⟩ f _ (deepF_below DF.out hb.out)).mono ?_
      rintro e w' ⟨rfl, hb1⟩
      obtain ⟨t, ht⟩ : ∃ t, t = mayF f := ⟨_, rfl⟩
      rw [← ht]
      have HK := Lib.hid ht
      have HB1 := Lib.hid (b_call hb.out hb1)
      clear ht hb1
      cases t
      · go_wp2_with fail
        go_ret
        exact ⟨_, rfl, Or.inr ⟨HF.out HK.out.symm, k0⟩, HB1.out⟩
      · go_wp2_with fail
        go_roundw
        case rel => exact ⟨k + 1, by omega, by first | rfl | trivial | go_num, HB1.out, HT.out HK.out.symm⟩
        case measure => simp [intOf]; omega
    · have hall : fs.all mayF = true := by have q := hp.out; have := HFL.out; rw [List.take_of_length_le (by omega)] at q; exact q
      have HALL := Lib.hid hall
      clear hall hp
      go_wp2_with fail
      go_ret
      exact ⟨_, rfl, Or.inl ⟨HALL.out, rfl⟩, hb.out⟩
theorem contF_any (u : Value) (fs : List FnM) (w : World) (h : ReadFs w u fs) : Calls Tryd.prog 59 #[u, .func (.func 60) #[] #[]] w fun e w' => e = .returned (.bool (!(fs.all mayF))) ∧ Below w.heap.size w w' := by
  obtain ⟨t, ht⟩ : ∃ t, t = fs.all mayF := ⟨_, rfl⟩
  rw [← ht]
  have HT := Lib.hid ht
  clear ht
  go_enter Tryd.func59, Tryd.ntmps59
  go_wp2_with fail
  refine (idxF_any _ fs _ h).mono ?_
  rintro e w' ⟨i, rfl, hi, hb⟩
  rw [← HT.out] at hi
  cases t
  · have hi : 0 ≤ i := by simpa using hi
    go_wp2_with fail
    go_ret
    exact ⟨rfl, hb⟩
  · have hi : i = -1 := by simpa using hi
    subst hi
    go_wp2_with fail
    go_ret
    exact ⟨rfl, hb⟩
set_option maxRecDepth 100000 in
set_option maxHeartbeats 2000000 in
theorem pmay_any (p : PrV) (P : PrM) (w : World) (h : ReadP w p P) : Calls Tryd.prog 30 #[aggP p] w fun e w' => e = .returned (.bool (mayP P)) ∧ Below w.heap.size w w' := by
  obtain ⟨u, ⟨ga, gn, gc⟩, m, ⟨fa, fn, fc⟩⟩ := p
  obtain ⟨pu, gl, pm, fs⟩ := P
  obtain ⟨hu, hg, hm, hf⟩ := h
  simp only at hu hm
  subst hm
  clear hu
  obtain ⟨hg1, hg2, hg3⟩ := sli_cap (show ReadI w (.slice ga gn gc) gl from hg)
  subst hg3
  have hfl : fn = fs.length := by
    obtain ⟨L, hL, hA⟩ := hf
    exact (slr_cap (show ReadR fnE w (.slice fa fn fc) L from hL)).2.2.trans (allF_len hA)
  subst hfl
  have hfm : fs.length ≤ fc ∧ fc ≤ maxLen := by
    obtain ⟨L, hL, hA⟩ := hf
    have := slr_cap (show ReadR fnE w (.slice fa fs.length fc) L from hL); exact ⟨this.1, this.2.1⟩
  have hfm2 := cap_le hfm.2
  have hgm := cap_le hg2
  have HG := Lib.hid (show ReadI w (.slice ga gl.length gc) gl from hg)
  have HF := Lib.hid (show ReadFs w (.slice fa fs.length fc) fs from hf)
  have HM2 : Hid (mayP ⟨pu, gl, m, fs⟩ = (decide (1 ≤ fs.length) && (decide (fs.length ≤ 16) && (decide (0 ≤ m) && (decide (m ≤ 4) && (kindsB gl 8 && fs.all mayF)))))) := rfl
  clear hg hf hg2
  obtain ⟨hfm1, _⟩ := hfm
  obtain ⟨t, ht⟩ : ∃ t, t = mayP ⟨pu, gl, m, fs⟩ := ⟨_, rfl⟩
  rw [← ht]
  have HT := Lib.hid ht
  clear ht
  unfold aggP Sl.v
  simp only
  by_cases c1 : 8 < gl.length
  · have c1' : (8 : Int) < gl.length := by omega
    obtain rfl : t = false := by rw [HT.out, HM2.out]; unfold kindsB; rw [decide_eq_false (show ¬ (gl.length : Int) ≤ 8 by omega)]; simp
    go_enter Tryd.func30, Tryd.ntmps30
    go_wp2_with fail
    go_ret
    exact ⟨rfl, b_alloc (Below.refl _ _) _⟩
  have c1' : ¬ (8 : Int) < gl.length := by omega
  go_enter Tryd.func30, Tryd.ntmps30
  go_wp2_with fail
  refine (right_any _ gl _ (readI_below HG.out (b_alloc (Below.refl _ _) _))).mono ?_
  rintro e w' ⟨rfl, rfl⟩
  obtain ⟨t1, ht1⟩ : ∃ t, t = gl.all kindB := ⟨_, rfl⟩
  rw [← ht1]
  have HT1 := Lib.hid ht1
  clear ht1
  cases t1
  · obtain rfl : t = false := by rw [HT.out, HM2.out]; unfold kindsB; rw [← HT1.out]; simp
    go_wp2_with fail
    go_ret
    exact ⟨rfl, b_alloc (Below.refl _ _) _⟩
  by_cases c2 : m < 0
  · obtain rfl : t = false := by rw [HT.out, HM2.out, decide_eq_false (show ¬ 0 ≤ m by omega)]; simp
    go_wp2_with fail
    go_ret
    exact ⟨rfl, b_alloc (Below.refl _ _) _⟩
  by_cases c3 : 4 < m
  · obtain rfl : t = false := by rw [HT.out, HM2.out, decide_eq_false (show ¬ m ≤ 4 by omega)]; simp
    go_wp2_with fail
    go_ret
    exact ⟨rfl, b_alloc (Below.refl _ _) _⟩
  by_cases c4 : fs.length < 1
  · have c4' : (fs.length : Int) < 1 := by omega
    obtain rfl : t = false := by rw [HT.out, HM2.out, decide_eq_false (show ¬ 1 ≤ fs.length by omega)]; simp
    go_wp2_with fail
    go_ret
    exact ⟨rfl, b_alloc (Below.refl _ _) _⟩
  have c4' : ¬ (fs.length : Int) < 1 := by omega
  by_cases c5 : 16 < fs.length
  · have c5' : (16 : Int) < fs.length := by omega
    obtain rfl : t = false := by rw [HT.out, HM2.out, decide_eq_false (show ¬ fs.length ≤ 16 by omega)]; simp
    go_wp2_with fail
    go_ret
    exact ⟨rfl, b_alloc (Below.refl _ _) _⟩
  have c5' : ¬ (16 : Int) < fs.length := by omega
  have HM3 : Hid (t = fs.all mayF) := by
    show _ = _
    rw [HT.out, HM2.out, decide_eq_true (show 1 ≤ fs.length by omega), decide_eq_true (show fs.length ≤ 16 by omega), decide_eq_true (show 0 ≤ m by omega), decide_eq_true (show m ≤ 4 by omega)]
    unfold kindsB
    rw [← HT1.out, decide_eq_true (show (gl.length : Int) ≤ 8 by omega)]
    rfl
  clear HT HM2
  go_wp2_with fail
  refine (contF_any _ fs _ (readFs_below HF.out (b_alloc (Below.refl _ _) _))).mono ?_
  rintro e w1 ⟨rfl, hb1⟩
  rw [← HM3.out]
  have HB1 := Lib.hid (b_call (b_alloc (Below.refl _ _) _) hb1)
  clear hb1
  cases t
  · go_wp2_with fail
    go_ret
    exact ⟨rfl, HB1.out⟩
  · go_wp2_with fail
    go_ret
    exact ⟨rfl, HB1.out⟩
end
end Go.Proofs.YtedmjlhgpdeafaaDoor
