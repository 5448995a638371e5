/- Layer 25: the program's own May. Conditions: what is asked reads as lists. Layer 25: the program's own May. Conditions: what is asked reads as lists. Layer 25: the program's own May. Conditions: what is asked reads as lists. Layer 24: instructions as bytes, and back: ours and the document's. Conditions: those stated. Layer 24: the words of instructions, as instr.Name finds them. No conditions. Chapter 24's example. No conditions. Layer 24: an instruction read: ours and the document's. Conditions: the slice reads as bytes, of fewer than 2^38. Layer 24: an instruction read by the document's own Read. Conditions: the slice reads as bytes, of fewer than 2^38. Layer 24, plain: the bytes of an instruction that may be are read as it was, whatever stands behind them. No conditions beside those stated. Layer 25: a program's bytes, as lists; rows of bytes kept apart from all else. No conditions beside those stated. Layer 25's Cut, and of what it is made. Conditions: the program reads as lists. -/
import Derived.Test.YtdmidnmciaediaaEq25
import Derived.Test.YtdmidnmciaediaaInstrTwo
import Derived.Laws.OwnMore
import Derived.Laws.IdiomStrings
import Derived.Test.YtdmidnmciaediaaBlk
import Derived.Test.YtdmidnmciaediaaCut
namespace Go.Proofs.Ytdmidnmciaediaa
open Go.RowKit
set_option linter.unusedVariables false
set_option linter.unusedSimpArgs false
attribute [local go_sem] over_cell over_frozen
theorem right1_any (x : Int) (w : World) : Calls Try.prog 119 #[.int .i64 x] w fun e w' => e = .returned (.bool (!kindB x)) ∧ w = w' := by
  by_cases h1 : x < 0
  · have e : kindB x = false := by unfold kindB; rw [decide_eq_false (by omega)]; rfl
    rw [e]; clear e
    go_enter Try.func119, Try.ntmps119
    go_wp2_with fail
    go_ret
    exact ⟨rfl, rfl⟩
  · by_cases h2 : 4 ≤ x
    · have e : kindB x = false := by unfold kindB; rw [decide_eq_false (show ¬ x ≤ 3 by omega)]; simp
      rw [e]; clear e
      go_enter Try.func119, Try.ntmps119
      go_wp2_with fail
      go_ret
      exact ⟨rfl, rfl⟩
    · have e : kindB x = true := by unfold kindB; rw [decide_eq_true (show x ≤ 3 by omega), decide_eq_true (show 0 ≤ x by omega)]; rfl
      rw [e]; clear e
      go_enter Try.func119, Try.ntmps119
      go_wp2_with fail
      go_ret
      exact ⟨rfl, rfl⟩
/-- A place at which something does not hold, or -1. -/
def IdxEnd (b : Bool) (W : World) (e : Ending) (w' : World) : Prop := ∃ i : Int, e = .returned (.int .i64 i) ∧ ((b = true ∧ i = -1) ∨ (b = false ∧ 0 ≤ i)) ∧ Below W.heap.size W w'
def IdxEnd0 (b : Bool) (W : World) (e : Ending) (w' : World) : Prop := ∃ i : Int, e = .returned (.int .i64 i) ∧ ((b = true ∧ i = -1) ∨ (b = false ∧ 0 ≤ i)) ∧ W = w'
set_option maxHeartbeats 800000 in
theorem idxI_any (u : Value) (xs : List Int) (w : World) (h : ReadI w u xs) : Calls Try.prog 134 #[u, .func (.func 119) #[] #[]] w (IdxEnd0 (xs.all kindB) w) := by
  obtain ⟨a, cap, rfl⟩ := readI_len h
  have hl : (xs.length : Int) ≤ 9223372036854775807 := by
    obtain ⟨_, _, e, h1, h2, _⟩ := h; have := cap_le h2; omega
  have H := Lib.hid h
  clear h
  go_enter Try.func134, Try.ntmps134
  go_wp2_with fail
  go_loopw [8] (fun i wr => ∃ k : Nat, k ≤ xs.length ∧ i = .int .i64 k ∧ wr = w ∧ Hid ((xs.take k).all kindB = true)) (fun i _ => xs.length - (intOf i).toNat)
  case atStart => exact ⟨0, Nat.zero_le _, rfl, rfl, rfl⟩
  case round =>
    obtain ⟨k, hk, rfl, rfl, hp⟩ := hrel
    have k0 : (0 : Int) ≤ k := by omega
    by_cases hlt : k < xs.length
    · obtain ⟨bl, off, cp, e1, r1, r2, hbl, r4⟩ := readI_pos H.out (by omega)
      cases e1
      have k1 : (k : Int) < xs.length := by omega
      have hc := r4 k hlt
      have HF : Hid (kindB xs[k] = false → xs.all kindB = false) := fun q => all_false hlt q
      have HT : Hid (kindB xs[k] = true → (xs.take (k + 1)).all kindB = true) := fun q => all_take hlt hp.out q
      rw [List.getD_eq_getElem?_getD, List.getElem?_eq_getElem hlt, Option.getD_some] at hc
      generalize xs[k] = x at *
      clear r4
      go_wp2_with fail
      refine (right1_any x _).mono ?_
      rintro e w' ⟨rfl, rfl⟩
      obtain ⟨t, ht⟩ : ∃ t, t = kindB x := ⟨_, rfl⟩
      rw [← ht]
      have HK := Lib.hid ht
      clear ht
      cases t
      · go_wp2_with fail
        go_ret
        exact ⟨_, rfl, Or.inr ⟨HF.out HK.out.symm, k0⟩, rfl⟩
      · go_wp2_with fail
        go_roundw
        case rel => exact ⟨k + 1, by omega, by first | rfl | trivial | go_num, by first | trivial | rfl, HT.out HK.out.symm⟩
        case measure => simp [intOf]; omega
    · have hall : xs.all kindB = true := by have q := hp.out; rw [List.take_of_length_le (by omega)] at q; exact q
      have HALL := Lib.hid hall
      clear hall hp
      go_wp2_with fail
      go_ret
      exact ⟨_, rfl, Or.inl ⟨HALL.out, rfl⟩, rfl⟩
theorem contI_any (u : Value) (xs : List Int) (w : World) (h : ReadI w u xs) : Calls Try.prog 118 #[u, .func (.func 119) #[] #[]] w fun e w' => e = .returned (.bool (!(xs.all kindB))) ∧ w = w' := by
  obtain ⟨t, ht⟩ : ∃ t, t = xs.all kindB := ⟨_, rfl⟩
  rw [← ht]
  have HT := Lib.hid ht
  clear ht
  go_enter Try.func118, Try.ntmps118
  go_wp2_with fail
  refine (idxI_any _ xs _ h).mono ?_
  rintro e w' ⟨i, rfl, hi, rfl⟩
  rw [← HT.out] at hi
  cases t
  · have hi : 0 ≤ i := by simpa using hi
    go_wp2_with fail
    go_ret
    exact ⟨rfl, rfl⟩
  · have hi : i = -1 := by simpa using hi
    subst hi
    go_wp2_with fail
    go_ret
    exact ⟨rfl, rfl⟩
theorem right_any (u : Value) (xs : List Int) (w : World) (h : ReadI w u xs) : Calls Try.prog 94 #[u] w fun e w' => e = .returned (.bool (xs.all kindB)) ∧ w = w' := by
  obtain ⟨t, ht⟩ : ∃ t, t = xs.all kindB := ⟨_, rfl⟩
  rw [← ht]
  have HT := Lib.hid ht
  clear ht
  go_enter Try.func94, Try.ntmps94
  go_wp2_with fail
  refine (contI_any _ xs _ h).mono ?_
  rintro e w' ⟨rfl, rfl⟩
  rw [← HT.out]
  cases t
  · go_wp2_with fail
    go_ret
    exact ⟨rfl, rfl⟩
  · go_wp2_with fail
    go_ret
    exact ⟨rfl, rfl⟩
def mayI (i : In4) : Bool := mayB i.op i.x i.a i.b
theorem codeB_all (c : List In4) : codeB c = c.all mayI := rfl
theorem fmay1_any (op x a b : Int) (w : World) : Calls Try.prog 122 #[.agg #[.int .i64 op, .int .u64 x, .int .i64 a, .int .i64 b]] w fun e w' => e = .returned (.bool (!mayI ⟨op, x, a, b⟩)) ∧ Below w.heap.size w w' := by
  unfold mayI
  obtain ⟨t, ht⟩ : ∃ t, t = mayB op x a b := ⟨_, rfl⟩
  simp only
  rw [← ht]
  have HT := Lib.hid ht
  clear ht
  go_enter Try.func122, Try.ntmps122
  go_wp2_with fail
  refine (may_any op x a b _).mono ?_
  rintro e w' ⟨rfl, hb⟩
  rw [← HT.out]
  have HB := Lib.hid (b_call (b_alloc (Below.refl _ _) _) hb)
  clear hb
  cases t
  · go_wp2_with fail
    go_ret
    exact ⟨rfl, HB.out⟩
  · go_wp2_with fail
    go_ret
    exact ⟨rfl, HB.out⟩
set_option maxHeartbeats 800000 in
theorem idxN_any (u : Value) (xs : List In4) (w : World) (h : ReadR inE w u xs) : Calls Try.prog 135 #[u, .func (.func 122) #[] #[]] w (IdxEnd (xs.all mayI) w) := by
  obtain ⟨a, cap, rfl, _⟩ := readR_len h
  have hl : (xs.length : Int) ≤ 9223372036854775807 := by
    obtain ⟨_, _, e, h1, h2, _⟩ := h; have := cap_le h2; omega
  have H := Lib.hid h
  clear h
  go_enter Try.func135, Try.ntmps135
  go_wp2_with fail
  go_loopw [8] (fun i wr => ∃ k : Nat, k ≤ xs.length ∧ i = .int .i64 k ∧ Hid (Below w.heap.size w wr) ∧ Hid ((xs.take k).all mayI = true)) (fun i _ => xs.length - (intOf i).toNat)
  case atStart => exact ⟨0, Nat.zero_le _, rfl, Below.refl _ _, rfl⟩
  case round =>
    obtain ⟨k, hk, rfl, hb, hp⟩ := hrel
    have k0 : (0 : Int) ≤ k := by omega
    by_cases hlt : k < xs.length
    · obtain ⟨bl, off, cp, e1, r1, r2, hbl, r4⟩ := readR_pos H.out (by omega)
      cases e1
      have k1 : (k : Int) < xs.length := by omega
      have hc := in_cells r4 k hlt
      rw [← (bcell hb.out).1 _ _ hbl, ← (bcell hb.out).1 _ _ hbl, ← (bcell hb.out).1 _ _ hbl, ← (bcell hb.out).1 _ _ hbl] at hc
      have HF : Hid (mayI xs[k] = false → xs.all mayI = false) := fun q => all_false hlt q
      have HT : Hid (mayI xs[k] = true → (xs.take (k + 1)).all mayI = true) := fun q => all_take hlt hp.out q
      generalize xs[k] = x at *
      obtain ⟨iop, ix, ia, ib⟩ := x
      simp only at hc
      obtain ⟨c0, c1, c2, c3⟩ := hc
      clear r4
      go_wp2_with fail
      refine (fmay1_any iop ix ia ib _).mono ?_
      rintro e w' ⟨rfl, hb1⟩
      obtain ⟨t, ht⟩ : ∃ t, t = mayI ⟨iop, ix, ia, ib⟩ := ⟨_, rfl⟩
      rw [← ht]
      have HK := Lib.hid ht
      have HB1 := Lib.hid (b_call hb.out hb1)
      clear ht hb1
      cases t
      · go_wp2_with fail
        go_ret
        exact ⟨_, rfl, Or.inr ⟨HF.out HK.out.symm, k0⟩, HB1.out⟩
      · go_wp2_with fail
        go_roundw
        case rel => exact ⟨k + 1, by omega, by first | rfl | trivial | go_num, HB1.out, HT.out HK.out.symm⟩
        case measure => simp [intOf]; omega
    · have hall : xs.all mayI = true := by have q := hp.out; rw [List.take_of_length_le (by omega)] at q; exact q
      have HALL := Lib.hid hall
      clear hall hp
      go_wp2_with fail
      go_ret
      exact ⟨_, rfl, Or.inl ⟨HALL.out, rfl⟩, hb.out⟩
theorem contN_any (u : Value) (xs : List In4) (w : World) (h : ReadR inE w u xs) : Calls Try.prog 121 #[u, .func (.func 122) #[] #[]] w fun e w' => e = .returned (.bool (!(xs.all mayI))) ∧ Below w.heap.size w w' := by
  obtain ⟨t, ht⟩ : ∃ t, t = xs.all mayI := ⟨_, rfl⟩
  rw [← ht]
  have HT := Lib.hid ht
  clear ht
  go_enter Try.func121, Try.ntmps121
  go_wp2_with fail
  refine (idxN_any _ xs _ h).mono ?_
  rintro e w' ⟨i, rfl, hi, hb⟩
  rw [← HT.out] at hi
  cases t
  · have hi : 0 ≤ i := by simpa using hi
    go_wp2_with fail
    go_ret
    exact ⟨rfl, hb⟩
  · have hi : i = -1 := by simpa using hi
    subst hi
    go_wp2_with fail
    go_ret
    exact ⟨rfl, hb⟩
theorem readI_sole (W : World) (T : TypeId) (r : Int) : ReadI (W.alloc (.cells #[.int .i64 r] T)) (.slice (some ⟨W.heap.size, 0, none⟩) 1 1) [r] := readR_I (readR_new (c := intE) W T r)
theorem readI_sole2 {W : World} {T : TypeId} {r : Int} {k : Nat} (hk : k = W.heap.size) : ReadI (W.alloc (.cells #[.int .i64 r] T)) (.slice (some ⟨k, 0, none⟩) 1 1) [r] := by rw [hk]; exact readI_sole W T r
set_option maxRecDepth 100000 in
set_option maxHeartbeats 1000000 in
theorem fmay_any (v : FnV) (f : FnM) (w : World) (h : DeepF w v f) : Calls Try.prog 97 #[.agg #[v.p.v, v.l.v, .int .i64 v.r, v.c.v]] w fun e w' => e = .returned (.bool (mayF f)) ∧ Below w.heap.size w w' := by
  obtain ⟨⟨pa, pn, pc⟩, ⟨la, ln, lc⟩, r, ⟨ca, cn, cc⟩⟩ := v
  obtain ⟨ps, ls, r', code⟩ := f
  obtain ⟨dp, dl, dr, dc⟩ := h
  simp only at dr
  subst dr
  obtain ⟨hp1, hp2, hp3⟩ := sli_cap (show ReadI w (.slice pa pn pc) ps from dp)
  subst hp3
  obtain ⟨hl1, hl2, hl3⟩ := sli_cap (show ReadI w (.slice la ln lc) ls from dl)
  subst hl3
  obtain ⟨hc1, hc2, hc3⟩ := slr_cap (show ReadR inE w (.slice ca cn cc) code from dc)
  subst hc3
  have hpm := cap_le hp2
  have hlm := cap_le hl2
  have hcm := cap_le hc2
  have HDP := Lib.hid (show ReadI w (.slice pa ps.length pc) ps from dp)
  have HDL := Lib.hid (show ReadI w (.slice la ls.length lc) ls from dl)
  have HDC := Lib.hid (show ReadR inE w (.slice ca code.length cc) code from dc)
  have HM2 : Hid (mayF ⟨ps, ls, r, code⟩ = (kindsB ps 8 && (kindsB ls (8 - ps.length) && (decide (0 ≤ r) && (decide (r ≤ 3) && (decide (1 ≤ code.length) && (decide (code.length ≤ 96) && codeB code))))))) := rfl
  clear dp dl dc hp2 hl2 hc2
  obtain ⟨t, ht⟩ : ∃ t, t = mayF ⟨ps, ls, r, code⟩ := ⟨_, rfl⟩
  rw [← ht]
  have HT := Lib.hid ht
  clear ht
  unfold Sl.v
  simp only
  by_cases c1 : 8 < ps.length
  · have c1' : (8 : Int) < ps.length := by omega
    obtain rfl : t = false := by rw [HT.out, HM2.out]; unfold kindsB; rw [decide_eq_false (show ¬ (ps.length : Int) ≤ 8 by omega)]; simp
    go_enter Try.func97, Try.ntmps97
    go_wp2_with fail
    go_quiet (fail)
    go_wp2_with fail
    go_ret
    exact ⟨rfl, b_drewN (b_alloc (Below.refl _ _) _) _⟩
  have c1' : (ps.length : Int) ≤ 8 := by omega
  have c1'' : ¬ (8 : Int) < ps.length := by omega
  by_cases c2 : (8 : Int) - ps.length < ls.length
  · obtain rfl : t = false := by rw [HT.out, HM2.out]; unfold kindsB; rw [decide_eq_false (show ¬ (ls.length : Int) ≤ 8 - ps.length by omega)]; simp
    go_enter Try.func97, Try.ntmps97
    go_wp2_with fail
    go_quiet (fail)
    go_wp2_with fail
    go_ret
    exact ⟨rfl, b_drewN (b_alloc (Below.refl _ _) _) _⟩
  by_cases c3 : code.length < 1
  · have c3' : (code.length : Int) < 1 := by omega
    obtain rfl : t = false := by rw [HT.out, HM2.out, decide_eq_false (show ¬ 1 ≤ code.length by omega)]; simp
    go_enter Try.func97, Try.ntmps97
    go_wp2_with fail
    go_quiet (fail)
    go_wp2_with fail
    go_ret
    exact ⟨rfl, b_drewN (b_alloc (Below.refl _ _) _) _⟩
  have c3' : ¬ (code.length : Int) < 1 := by omega
  by_cases c4 : 96 < code.length
  · have c4' : (96 : Int) < code.length := by omega
    obtain rfl : t = false := by rw [HT.out, HM2.out, decide_eq_false (show ¬ code.length ≤ 96 by omega)]; simp
    go_enter Try.func97, Try.ntmps97
    go_wp2_with fail
    go_quiet (fail)
    go_wp2_with fail
    go_ret
    exact ⟨rfl, b_drewN (b_alloc (Below.refl _ _) _) _⟩
  have c4' : ¬ (96 : Int) < code.length := by omega
  have HM3 : Hid (t = (ps.all kindB && (ls.all kindB && (kindB r && code.all mayI)))) := by
    show _ = _
    rw [HT.out, HM2.out, decide_eq_true (show 1 ≤ code.length by omega), decide_eq_true (show code.length ≤ 96 by omega), codeB_all]
    unfold kindsB
    rw [decide_eq_true c1', decide_eq_true (show (ls.length : Int) ≤ 8 - ps.length by omega)]
    unfold kindB
    simp [Bool.and_assoc]
  clear HT HM2
  go_enter Try.func97, Try.ntmps97
  go_wp2_with fail
  go_quiet (fail)
  go_wp2_with fail
  refine (right_any _ ps _ (readI_below HDP.out (b_drewN (b_alloc (Below.refl _ _) _) _))).mono ?_
  rintro e w' ⟨rfl, rfl⟩
  obtain ⟨t1, ht1⟩ : ∃ t, t = ps.all kindB := ⟨_, rfl⟩
  rw [← ht1]
  have HT1 := Lib.hid ht1
  clear ht1
  cases t1
  · obtain rfl : t = false := by rw [HM3.out, ← HT1.out]; rfl
    go_wp2_with fail
    go_ret
    exact ⟨rfl, b_drewN (b_alloc (Below.refl _ _) _) _⟩
  go_wp2_with fail
  refine (right_any _ ls _ (readI_below HDL.out (b_drewN (b_alloc (Below.refl _ _) _) _))).mono ?_
  rintro e w' ⟨rfl, rfl⟩
  obtain ⟨t2, ht2⟩ : ∃ t, t = ls.all kindB := ⟨_, rfl⟩
  rw [← ht2]
  have HT2 := Lib.hid ht2
  clear ht2
  cases t2
  · obtain rfl : t = false := by rw [HM3.out, ← HT1.out, ← HT2.out]; rfl
    go_wp2_with fail
    go_ret
    exact ⟨rfl, b_drewN (b_alloc (Below.refl _ _) _) _⟩
  go_wp2_with fail
  refine (right_any _ [r] _ ?hsole).mono ?_
  case hsole => exact readI_sole2 (by simp)
  rintro e w' ⟨rfl, rfl⟩
  obtain ⟨t3, ht3⟩ : ∃ t, t = [r].all kindB := ⟨_, rfl⟩
  rw [← ht3]
  have HT3 : Hid (t3 = kindB r) := by show _ = _; rw [ht3]; simp
  clear ht3
  cases t3
  · obtain rfl : t = false := by rw [HM3.out, ← HT1.out, ← HT2.out, ← HT3.out]; rfl
    go_wp2_with fail
    go_ret
    exact ⟨rfl, b_alloc (b_drewN (b_alloc (Below.refl _ _) _) _) _⟩
  go_wp2_with fail
  refine (contN_any _ code _ (readR_below HDC.out (b_alloc (b_drewN (b_alloc (Below.refl _ _) _) _) _))).mono ?_
  rintro e w1 ⟨rfl, hb1⟩
  obtain ⟨t4, ht4⟩ : ∃ t, t = code.all mayI := ⟨_, rfl⟩
  rw [← ht4]
  have HT4 := Lib.hid ht4
  have HB1 := Lib.hid (b_call (b_alloc (b_drewN (b_alloc (Below.refl _ _) _) _) _) hb1)
  clear ht4 hb1
  cases t4
  · obtain rfl : t = false := by rw [HM3.out, ← HT1.out, ← HT2.out, ← HT3.out, ← HT4.out]; rfl
    go_wp2_with fail
    go_ret
    exact ⟨rfl, HB1.out⟩
  · obtain rfl : t = true := by rw [HM3.out, ← HT1.out, ← HT2.out, ← HT3.out, ← HT4.out]; rfl
    go_wp2_with fail
    go_ret
    exact ⟨rfl, HB1.out⟩
theorem pmay1_any (v : FnV) (f : FnM) (w : World) (h : DeepF w v f) : Calls Try.prog 96 #[.agg #[v.p.v, v.l.v, .int .i64 v.r, v.c.v]] w fun e w' => e = .returned (.bool (!mayF f)) ∧ Below w.heap.size w w' := by
  obtain ⟨t, ht⟩ : ∃ t, t = mayF f := ⟨_, rfl⟩
  rw [← ht]
  have HT := Lib.hid ht
  have H := Lib.hid h
  clear ht h
  go_enter Try.func96, Try.ntmps96
  go_wp2_with fail
  refine (fmay_any v f _ (deepF_below H.out (b_alloc (Below.refl _ _) _))).mono ?_
  rintro e w' ⟨rfl, hb⟩
  rw [← HT.out]
  have HB := Lib.hid (b_call (b_alloc (Below.refl _ _) _) hb)
  clear hb
  cases t
  · go_wp2_with fail
    go_ret
    exact ⟨rfl, HB.out⟩
  · go_wp2_with fail
    go_ret
    exact ⟨rfl, HB.out⟩
set_option maxHeartbeats 800000 in
theorem idxF_any (u : Value) (fs : List FnM) (w : World) (h : ReadFs w u fs) : Calls Try.prog 120 #[u, .func (.func 96) #[] #[]] w (IdxEnd (fs.all mayF) w) := by
  obtain ⟨L, hL, hA⟩ := h
  obtain ⟨a, cap, rfl, _⟩ := readR_len hL
  have hl : (L.length : Int) ≤ 9223372036854775807 := by
    obtain ⟨_, _, e, h1, h2, _⟩ := hL; have := cap_le h2; omega
  have HL := Lib.hid hL
  have HA := Lib.hid hA
  have HFL := Lib.hid (allF_len hA)
  clear hL hA
  go_enter Try.func120, Try.ntmps120
  go_wp2_with fail
  go_loopw [8] (fun i wr => ∃ k : Nat, k ≤ L.length ∧ i = .int .i64 k ∧ Hid (Below w.heap.size w wr) ∧ Hid ((fs.take k).all mayF = true)) (fun i _ => L.length - (intOf i).toNat)
  case atStart => exact ⟨0, Nat.zero_le _, rfl, Below.refl _ _, rfl⟩
  case round =>
    obtain ⟨k, hk, rfl, hb, hp⟩ := hrel
    have k0 : (0 : Int) ≤ k := by omega
    by_cases hlt : k < L.length
    · obtain ⟨bl, off, cp, e1, r1, r2, hbl, r4⟩ := readR_pos HL.out (by omega)
      cases e1
      have k1 : (k : Int) < L.length := by omega
      have hc := fn_cells r4 k hlt
      rw [← (bcell hb.out).1 _ _ hbl, ← (bcell hb.out).1 _ _ hbl, ← (bcell hb.out).1 _ _ hbl, ← (bcell hb.out).1 _ _ hbl] at hc
      have kf : k < fs.length := by rw [← HFL.out]; exact hlt
      have DF := Lib.hid (allF_at HA.out k hlt kf)
      have HF : Hid (mayF fs[k] = false → fs.all mayF = false) := fun q => all_false kf q
      have HT : Hid (mayF fs[k] = true → (fs.take (k + 1)).all mayF = true) := fun q => all_take kf hp.out q
      generalize fs[k] = f at *
      generalize L[k] = x at *
      obtain ⟨⟨pa, pn, pc⟩, ⟨la, ln, lc⟩, r, ⟨ca, cn, cc⟩⟩ := x
      simp only at hc
      obtain ⟨c0, c1, c2, c3⟩ := hc
      clear r4
      go_wp2_with fail
      refine (pmay1_any ⟨⟨pa, pn, pc⟩, ⟨la, ln, lc⟩, r, ⟨ca, cn, cc⟩⟩ f _ (deepF_below DF.out hb.out)).mono ?_
      rintro e w' ⟨rfl, hb1⟩
      obtain ⟨t, ht⟩ : ∃ t, t = mayF f := ⟨_, rfl⟩
      rw [← ht]
      have HK := Lib.hid ht
      have HB1 := Lib.hid (b_call hb.out hb1)
      clear ht hb1
      cases t
      · go_wp2_with fail
        go_ret
        exact ⟨_, rfl, Or.inr ⟨HF.out HK.out.symm, k0⟩, HB1.out⟩
      · go_wp2_with fail
        go_roundw
        case rel => exact ⟨k + 1, by omega, by first | rfl | trivial | go_num, HB1.out, HT.out HK.out.symm⟩
        case measure => simp [intOf]; omega
    · have hall : fs.all mayF = true := by have q := hp.out; have := HFL.out; rw [List.take_of_length_le (by omega)] at q; exact q
      have HALL := Lib.hid hall
      clear hall hp
      go_wp2_with fail
      go_ret
      exact ⟨_, rfl, Or.inl ⟨HALL.out, rfl⟩, hb.out⟩
theorem contF_any (u : Value) (fs : List FnM) (w : World) (h : ReadFs w u fs) : Calls Try.prog 95 #[u, .func (.func 96) #[] #[]] w fun e w' => e = .returned (.bool (!(fs.all mayF))) ∧ Below w.heap.size w w' := by
  obtain ⟨t, ht⟩ : ∃ t, t = fs.all mayF := ⟨_, rfl⟩
  rw [← ht]
  have HT := Lib.hid ht
  clear ht
  go_enter Try.func95, Try.ntmps95
  go_wp2_with fail
  refine (idxF_any _ fs _ h).mono ?_
  rintro e w' ⟨i, rfl, hi, hb⟩
  rw [← HT.out] at hi
  cases t
  · have hi : 0 ≤ i := by simpa using hi
    go_wp2_with fail
    go_ret
    exact ⟨rfl, hb⟩
  · have hi : i = -1 := by simpa using hi
    subst hi
    go_wp2_with fail
    go_ret
    exact ⟨rfl, hb⟩
set_option maxRecDepth 100000 in
set_option maxHeartbeats 2000000 in
theorem pmay_any (p : PrV) (P : PrM) (w : World) (h : ReadP w p P) : Calls Try.prog 77 #[aggP p] w fun e w' => e = .returned (.bool (mayP P)) ∧ Below w.heap.size w w' := by
  obtain ⟨u, ⟨ga, gn, gc⟩, m, ⟨fa, fn, fc⟩⟩ := p
  obtain ⟨pu, gl, pm, fs⟩ := P
  obtain ⟨hu, hg, hm, hf⟩ := h
  simp only at hu hm
  subst hm
  clear hu
  obtain ⟨hg1, hg2, hg3⟩ := sli_cap (show ReadI w (.slice ga gn gc) gl from hg)
  subst hg3
  have hfl : fn = fs.length := by
    obtain ⟨L, hL, hA⟩ := hf
    exact (slr_cap (show ReadR fnE w (.slice fa fn fc) L from hL)).2.2.trans (allF_len hA)
  subst hfl
  have hfm : fs.length ≤ fc ∧ fc ≤ maxLen := by
    obtain ⟨L, hL, hA⟩ := hf
    have := slr_cap (show ReadR fnE w (.slice fa fs.length fc) L from hL); exact ⟨this.1, this.2.1⟩
  have hfm2 := cap_le hfm.2
  have hgm := cap_le hg2
  have HG := Lib.hid (show ReadI w (.slice ga gl.length gc) gl from hg)
  have HF := Lib.hid (show ReadFs w (.slice fa fs.length fc) fs from hf)
  have HM2 : Hid (mayP ⟨pu, gl, m, fs⟩ = (decide (1 ≤ fs.length) && (decide (fs.length ≤ 16) && (decide (0 ≤ m) && (decide (m ≤ 4) && (kindsB gl 8 && fs.all mayF)))))) := rfl
  clear hg hf hg2
  obtain ⟨hfm1, _⟩ := hfm
  obtain ⟨t, ht⟩ : ∃ t, t = mayP ⟨pu, gl, m, fs⟩ := ⟨_, rfl⟩
  rw [← ht]
  have HT := Lib.hid ht
  clear ht
  unfold aggP Sl.v
  simp only
  by_cases c1 : 8 < gl.length
  · have c1' : (8 : Int) < gl.length := by omega
    obtain rfl : t = false := by rw [HT.out, HM2.out]; unfold kindsB; rw [decide_eq_false (show ¬ (gl.length : Int) ≤ 8 by omega)]; simp
    go_enter Try.func77, Try.ntmps77
    go_wp2_with fail
    go_ret
    exact ⟨rfl, b_alloc (Below.refl _ _) _⟩
  have c1' : ¬ (8 : Int) < gl.length := by omega
  go_enter Try.func77, Try.ntmps77
  go_wp2_with fail
  refine (right_any _ gl _ (readI_below HG.out (b_alloc (Below.refl _ _) _))).mono ?_
  rintro e w' ⟨rfl, rfl⟩
  obtain ⟨t1, ht1⟩ : ∃ t, t = gl.all kindB := ⟨_, rfl⟩
  rw [← ht1]
  have HT1 := Lib.hid ht1
  clear ht1
  cases t1
  · obtain rfl : t = false := by rw [HT.out, HM2.out]; unfold kindsB; rw [← HT1.out]; simp
    go_wp2_with fail
    go_ret
    exact ⟨rfl, b_alloc (Below.refl _ _) _⟩
  by_cases c2 : m < 0
  · obtain rfl : t = false := by rw [HT.out, HM2.out, decide_eq_false (show ¬ 0 ≤ m by omega)]; simp
    go_wp2_with fail
    go_ret
    exact ⟨rfl, b_alloc (Below.refl _ _) _⟩
  by_cases c3 : 4 < m
  · obtain rfl : t = false := by rw [HT.out, HM2.out, decide_eq_false (show ¬ m ≤ 4 by omega)]; simp
    go_wp2_with fail
    go_ret
    exact ⟨rfl, b_alloc (Below.refl _ _) _⟩
  by_cases c4 : fs.length < 1
  · have c4' : (fs.length : Int) < 1 := by omega
    obtain rfl : t = false := by rw [HT.out, HM2.out, decide_eq_false (show ¬ 1 ≤ fs.length by omega)]; simp
    go_wp2_with fail
    go_ret
    exact ⟨rfl, b_alloc (Below.refl _ _) _⟩
  have c4' : ¬ (fs.length : Int) < 1 := by omega
  by_cases c5 : 16 < fs.length
  · have c5' : (16 : Int) < fs.length := by omega
    obtain rfl : t = false := by rw [HT.out, HM2.out, decide_eq_false (show ¬ fs.length ≤ 16 by omega)]; simp
    go_wp2_with fail
    go_ret
    exact ⟨rfl, b_alloc (Below.refl _ _) _⟩
  have c5' : ¬ (16 : Int) < fs.length := by omega
  have HM3 : Hid (t = fs.all mayF) := by
    show _ = _
    rw [HT.out, HM2.out, decide_eq_true (show 1 ≤ fs.length by omega), decide_eq_true (show fs.length ≤ 16 by omega), decide_eq_true (show 0 ≤ m by omega), decide_eq_true (show m ≤ 4 by omega)]
    unfold kindsB
    rw [← HT1.out, decide_eq_true (show (gl.length : Int) ≤ 8 by omega)]
    rfl
  clear HT HM2
  go_wp2_with fail
  refine (contF_any _ fs _ (readFs_below HF.out (b_alloc (Below.refl _ _) _))).mono ?_
  rintro e w1 ⟨rfl, hb1⟩
  rw [← HM3.out]
  have HB1 := Lib.hid (b_call (b_alloc (Below.refl _ _) _) hb1)
  clear hb1
  cases t
  · go_wp2_with fail
    go_ret
    exact ⟨rfl, HB1.out⟩
  · go_wp2_with fail
    go_ret
    exact ⟨rfl, HB1.out⟩
/-- The bytes of an instruction that may be. -/
def bytesI (op x a b : Int) : List Int := [op % 256] ++ (if shX op = true then putL 8 x else []) ++ (if 0 < shN op then putL 2 a else []) ++ (if 1 < shN op then putL 2 b else [])
theorem bytesI_length (op x a b : Int) : (bytesI op x a b).length = 1 + (if shX op = true then 8 else 0) + (if 0 < shN op then 2 else 0) + (if 1 < shN op then 2 else 0) := by
  unfold bytesI
  simp only [List.length_append, List.length_cons, List.length_nil]
  split <;> split <;> split <;> simp [putL_length]
def RetBytes (w : World) (xs : List Int) (n : Int) (e : Ending) (w' : World) : Prop := ∃ v, e = .returned (.tuple #[v, .int .i64 n]) ∧ OwnB w' w.heap.size v xs ∧ Below w.heap.size w w'
def arg2 (a b : Int) (j : Nat) : Int := if j = 0 then a else b
def preL (base : List Int) (a b : Int) : Nat → List Int
  | 0 => base
  | j + 1 => preL base a b j ++ putL 2 (arg2 a b j)
theorem preL_length (base : List Int) (a b : Int) : ∀ j, (preL base a b j).length = base.length + 2 * j
  | 0 => rfl
  | j + 1 => by rw [preL, List.length_append, preL_length base a b j, putL_length]; omega
theorem ownB_lit {w : World} {B : Nat} (x : Int) (hB : B ≤ w.heap.size) : OwnB (w.alloc (.cells #[.int .u8 x] 5)) B (.slice (some ⟨w.heap.size, 0, none⟩) 1 1) [x] :=
  World.ownsRow_lit w #[.int .u8 x] 1 hB (by unfold maxLen; decide) rfl
/-- The words behind the op's byte: what Bytes makes of a and b. -/
theorem may_arg {op x a b : Int} (h : mayB op x a b = true) : (0 ≤ a ∧ a ≤ 65535) ∧ (0 ≤ b ∧ b ≤ 65535) := by
  unfold mayB at h
  simp only [Bool.and_eq_true] at h
  have f : ∀ n t, smallB n t = true → 0 ≤ n ∧ n ≤ 65535 := fun n t h => by
    rcases (show (n < 0 ∨ 65535 < n) ∨ (0 ≤ n ∧ n ≤ 65535) by omega) with q | q
    · rw [small_out q] at h; cases h
    · exact q
  exact ⟨f _ _ h.1.2, f _ _ h.2⟩
/-- A row of bytes never lies in a block of ints. -/
theorem ownB_ne {w : World} {B g : Nat} {v : Value} {xs : List Int} {cs : Array Value} (h : OwnB w B v xs) (hg : w.heap[g]? = some (.cells cs 3 (0, 0))) : some g ≠ v.ownBlock := by
  rcases h.2 with ⟨rfl, _⟩ | ⟨g', cap, cur, rfl, _, hh, _⟩
  · intro e; cases e
  · intro e
    have e2 : g = g' := by cases e; rfl
    subst e2
    rw [hg] at hh; cases hh
theorem lt_of_block {w : World} {g : Nat} {o : Obj} (h : w.heap[g]? = some o) : g < w.heap.size := by
  rcases Nat.lt_or_ge g w.heap.size with q | q
  · exact q
  · rw [Array.getElem?_eq_none q] at h; cases h
theorem arg2_bd {a b : Int} (h : (0 ≤ a ∧ a ≤ 65535) ∧ (0 ≤ b ∧ b ≤ 65535)) (j : Nat) : 0 ≤ arg2 a b j ∧ arg2 a b j ≤ 65535 := by
  unfold arg2; split
  · exact h.1
  · exact h.2
theorem block_cell {w : World} {g : Nat} {cs : Array Value} {T : TypeId} (h : w.heap[g]? = some (.cells cs T (0, 0))) (j : Nat) : w.cell? ⟨g, j, none⟩ = cs[j]? := cell_of_row w g j cs T (0, 0) h
theorem flag_kind (op : Int) : (hasB op 120 = shX op) ∧ (hasB op 97 = decide (0 < shN op)) ∧ (hasB op 98 = decide (1 < shN op)) := by
  obtain ⟨e1, e2, e3⟩ := has_xs op
  rw [e1, e2, e3]
  unfold shX shN
  have h := kind_le op
  generalize kindOf op = n at h
  match n, h with
  | 0, _ => exact ⟨rfl, rfl, rfl⟩
  | 1, _ => exact ⟨rfl, rfl, rfl⟩
  | 2, _ => exact ⟨rfl, rfl, rfl⟩
  | 3, _ => exact ⟨rfl, rfl, rfl⟩
  | 4, _ => exact ⟨rfl, rfl, rfl⟩
/-- The bytes, by the document's own flags. -/
def bytesF (q0 q1 q2 : Bool) (op x a b : Int) : List Int := [op % 256] ++ (if q0 = true then putL 8 x else []) ++ (if q1 = true then putL 2 a else []) ++ (if q2 = true then putL 2 b else [])
theorem bytesF_eq (op x a b : Int) : bytesI op x a b = bytesF (hasB op 120) (hasB op 97) (hasB op 98) op x a b := by
  obtain ⟨e1, e2, e3⟩ := flag_kind op
  unfold bytesI bytesF
  rw [e1, e2, e3]
  simp only [decide_eq_true_iff]
def wsL : List UInt8 := (([110, 111, 112, 32, 112, 117, 115, 104, 32, 112, 117, 115, 104, 102, 32, 110, 105, 108, 32, 103, 101, 116, 32, 115, 101, 116, 32, 103, 103, 101, 116, 32, 103, 115, 101, 116, 32, 112, 111, 112, 32, 100, 117, 112, 32].append [117, 110, 32, 98, 105, 110, 32, 106, 117, 109, 112, 32, 106, 122, 32, 99, 97, 108, 108, 32, 114, 101, 116, 32, 112, 111, 108, 108, 32, 110, 101, 119, 32, 114, 103, 101, 116, 32, 114, 115, 101, 116, 32, 110, 103]).append ([101, 116, 32, 110, 115, 101, 116, 32, 105, 115, 110, 105, 108, 32, 109, 97, 108, 108, 111, 99, 32, 102, 114, 101, 101, 32, 108, 111, 97, 100, 32, 115, 116, 111, 114, 101, 32, 112, 110, 105, 108, 32, 115, 112, 97].append [119, 110, 32, 106, 111, 105, 110, 32, 121, 105, 101, 108, 100, 32, 108, 111, 99, 107, 32, 117, 110, 108, 111, 99, 107, 32, 108, 111, 103, 32, 108, 111, 103, 102, 32, 116, 114, 97, 112, 32, 116, 111, 112, 116, 114, 32]))
def WS : ByteArray := ⟨wsL.toArray⟩
def wsAt (p : Nat) : Nat := (wsL.getD p 0).toNat
/-- How many blanks stand ahead of p, and where the word begins. -/
def scan : Nat → Nat × Nat
  | 0 => (0, 0)
  | p + 1 => if wsAt p = 32 then ((scan p).1 + 1, p + 1) else scan p
theorem ws_fold : (⟨((([110, 111, 112, 32, 112, 117, 115, 104, 32, 112, 117, 115, 104, 102, 32, 110, 105, 108, 32, 103, 101, 116, 32, 115, 101, 116, 32, 103, 103, 101, 116, 32, 103, 115, 101, 116, 32, 112, 111, 112, 32, 100, 117, 112, 32].append [117, 110, 32, 98, 105, 110, 32, 106, 117, 109, 112, 32, 106, 122, 32, 99, 97, 108, 108, 32, 114, 101, 116, 32, 112, 111, 108, 108, 32, 110, 101, 119, 32, 114, 103, 101, 116, 32, 114, 115, 101, 116, 32, 110, 103]).append ([101, 116, 32, 110, 115, 101, 116, 32, 105, 115, 110, 105, 108, 32, 109, 97, 108, 108, 111, 99, 32, 102, 114, 101, 101, 32, 108, 111, 97, 100, 32, 115, 116, 111, 114, 101, 32, 112, 110, 105, 108, 32, 115, 112, 97].append [119, 110, 32, 106, 111, 105, 110, 32, 121, 105, 101, 108, 100, 32, 108, 111, 99, 107, 32, 117, 110, 108, 111, 99, 107, 32, 108, 111, 103, 32, 108, 111, 103, 102, 32, 116, 114, 97, 112, 32, 116, 111, 112, 116, 114, 32]))).toArray⟩ : ByteArray) = WS := rfl
theorem ws_size0 : (WS.size == 181) = true := by kernel_rfl
theorem ws_size : WS.size = 181 := eq_of_beq ws_size0
def scanOk (p : Nat) : Bool := decide (wsAt p < 128) && (wsAt p != 32 || ((WS.extract (scan p).2 p).data.toList == (nameS (scan p).1).data.toList && decide ((scan p).2 ≤ p) && decide ((scan p).1 < 37)))
theorem scan_all : (List.range 181).all scanOk = true := by kernel_rfl
theorem scan_end : (scan 181).1 = 37 := by kernel_rfl
theorem ws_at_all : (List.range 181).all (fun p => (WS.data.getD p 0).toNat == wsAt p) = true := by kernel_rfl
theorem ws_at (p : Nat) (h : p < WS.size) : (WS[p]'h).toNat = wsAt p := by
  have e := List.all_eq_true.1 ws_at_all p (List.mem_range.2 (by rw [← ws_size]; exact h))
  have e2 := eq_of_beq e
  rw [← e2]
  have hs : p < WS.data.size := h
  have : WS.data.getD p 0 = WS.data[p] := by unfold Array.getD; rw [dif_pos hs]; rfl
  rw [this]; rfl
theorem scan_ok (p : Nat) (h : p < 181) : wsAt p < 128 ∧ (wsAt p = 32 → WS.extract (scan p).2 p = nameS (scan p).1 ∧ (scan p).2 ≤ p ∧ (scan p).1 < 37) := by
  have e := List.all_eq_true.1 scan_all p (List.mem_range.2 h)
  unfold scanOk at e
  rw [Bool.and_eq_true, decide_eq_true_iff] at e
  refine ⟨e.1, fun h32 => ?_⟩
  have e2 := e.2
  rw [h32] at e2
  rw [show ((32 : Nat) != 32) = false from rfl, Bool.false_or, Bool.and_eq_true, Bool.and_eq_true, decide_eq_true_iff, decide_eq_true_iff] at e2
  refine ⟨?_, e2.1.2, e2.2⟩
  have e3 := eq_of_beq e2.1.1
  exact ByteArray.ext (Array.toList_inj.1 e3)
def nameB (op : Int) : ByteArray := if 0 ≤ op ∧ op < 37 then nameS op.toNat else ⟨#[]⟩
theorem scan_le : ∀ p, (scan p).1 ≤ p ∧ (scan p).2 ≤ p
  | 0 => ⟨Nat.le_refl _, Nat.le_refl _⟩
  | p + 1 => by
    obtain ⟨h1, h2⟩ := scan_le p
    unfold scan
    split
    · exact ⟨by simp only []; omega, Nat.le_refl _⟩
    · exact ⟨by omega, by omega⟩
theorem name_less (w : World) (p : Nat) (h : p < 181) : (match (w.iter WS (p + 1)).heap.back? with | some (.stringIter _ p) => 181 - p | _ => 0) < (match (w.iter WS p).heap.back? with | some (.stringIter _ p) => 181 - p | _ => 0) := by
  have e : ∀ q, (w.iter WS q).heap.back? = some (.stringIter WS q) := fun q => by
    show (w.heap.push (Obj.stringIter WS q)).back? = _
    simp
  rw [e, e]
  show 181 - (p + 1) < 181 - p
  omega
theorem wake_bytes : bytesI 17 0 1 2 = [17, 1, 0, 2, 0] := by decide
theorem wake_may : mayB 17 0 1 2 = true := by decide
theorem wake_name : nameB 36 = ⟨#[116, 111, 112, 116, 114]⟩ := rfl
/-- Bytes as a string. -/
def bytesOf (xs : List Int) : ByteArray := ⟨(xs.map (fun x => UInt8.ofNat x.toNat)).toArray⟩
/-- What 's[i:j]' reads as. -/
theorem readB_cut {w : World} {b o n cap : Nat} {xs : List Int} (h : ReadB w (.slice (some ⟨b, o, none⟩) n cap) xs) (i j : Nat) (hij : i < j) (hj : j ≤ xs.length) : ReadB w (.slice (some ⟨b, o + i, none⟩) (j - i) (cap - i)) ((xs.drop i).take (j - i)) := by
  obtain ⟨b', o', cap', hv, h1, h2, h3, h4⟩ := readB_pos h (by omega)
  cases hv
  have e : ((xs.drop i).take (j - i)).length = j - i := by simp; omega
  have := readB_mk (w := w) (b := b) (o := o + i) (cap := cap - i) (xs := (xs.drop i).take (j - i)) (by omega) (by omega) h3 (fun k hk => by
    rw [e] at hk
    rw [Nat.add_assoc, h4 (i + k) (by omega)]
    simp only [List.getD_eq_getElem?_getD, List.getElem?_take_of_lt hk, List.getElem?_drop])
  rw [e] at this
  exact this
def opR (xs : List Int) : Int := xs.getD 0 0
def szR (op : Int) : Nat := 1 + 2 * (shN op).toNat + (if shX op = true then 8 else 0)
def okR (xs : List Int) : Bool := decide (0 < xs.length) && shOk (opR xs) && decide (szR (opR xs) ≤ xs.length)
def cutL (xs : List Int) (i j : Nat) : List Int := (xs.drop i).take (j - i)
def xR (xs : List Int) : Int := if shX (opR xs) = true then getL ((cutL xs 1 9).take 8) else 0
def aR (xs : List Int) : Int := if 0 < shN (opR xs) then getL ((cutL xs 1 3).take 8) else 0
def bR (xs : List Int) : Int := if 1 < shN (opR xs) then getL ((cutL xs 3 5).take 8) else 0
def instV (op x a b : Int) : Value := .agg #[.int .i64 op, .int .u64 x, .int .i64 a, .int .i64 b]
theorem kinds (op : Int) : (shOk op = false ∧ shN op = 0 ∧ shX op = false) ∨ (shOk op = true ∧ shN op = 0 ∧ shX op = false) ∨ (shOk op = true ∧ shN op = 0 ∧ shX op = true) ∨ (shOk op = true ∧ shN op = 1 ∧ shX op = false) ∨ (shOk op = true ∧ shN op = 2 ∧ shX op = false) := by
  have h := kind_le op
  unfold shOk shN shX
  generalize kindOf op = n at h
  match n, h with
  | 0, _ => exact Or.inr (Or.inl ⟨rfl, rfl, rfl⟩)
  | 1, _ => exact Or.inr (Or.inr (Or.inl ⟨rfl, rfl, rfl⟩))
  | 2, _ => exact Or.inr (Or.inr (Or.inr (Or.inl ⟨rfl, rfl, rfl⟩)))
  | 3, _ => exact Or.inr (Or.inr (Or.inr (Or.inr ⟨rfl, rfl, rfl⟩)))
  | 4, _ => exact Or.inl ⟨rfl, rfl, rfl⟩
theorem getL_bd16 {xs : List Int} (hb : IsBytes xs) {i : Nat} {z : Int} (h : z = getL ((cutL xs i (i + 2)).take 8)) : 0 ≤ z ∧ z ≤ 65535 := by
  obtain ⟨g1, g2⟩ := getL_lt _ (isBytes_take (isBytes_take (isBytes_drop hb i) (i + 2 - i)) 8)
  have hl : ((cutL xs i (i + 2)).take 8).length ≤ 2 := by unfold cutL; simp; omega
  have h2 : (256 : Int) ^ ((cutL xs i (i + 2)).take 8).length ≤ 65536 := by
    have e := Int.ofNat_le.2 (Nat.pow_le_pow_right (show 0 < 256 by decide) hl)
    rw [Int.natCast_pow, Int.natCast_pow] at e
    exact e
  rw [h]
  exact ⟨g1, by unfold cutL at h2 ⊢; omega⟩
theorem tell_no {op : Int} (h : shOk op = true) : ((tellS (kindOf op)).toList == [45]) = false ∧ ¬ (tellS (kindOf op)).toList = [45] := by
  have hk := kind_le op
  have h4 : kindOf op ≠ 4 := by
    intro e; unfold shOk at h; rw [e] at h; cases h
  exact ⟨beq_false_of_ne (tell_ne hk h4), tell_ne hk h4⟩
theorem tell_bad {op : Int} (h : shOk op = false) : kindOf op = 4 := by
  unfold shOk at h
  rcases Nat.lt_or_ge (kindOf op) 4 with q | q
  · rw [show (kindOf op != 4) = true by rw [bne_iff_ne]; omega] at h; cases h
  · have := kind_le op; omega
theorem szR_bytes (op : Int) : (bytesI op 0 0 0).length = szR op := by
  rw [bytesI_length]; unfold szR
  rcases kinds op with ⟨_, k2, k3⟩ | ⟨_, k2, k3⟩ | ⟨_, k2, k3⟩ | ⟨_, k2, k3⟩ | ⟨_, k2, k3⟩ <;> rw [k2, k3] <;> rfl
theorem getL_putL : ∀ (n : Nat) (v : Int), 0 ≤ v → getL (putL n v) = v % 256 ^ n
  | 0, v, _ => by
    show (0 : Int) = v % 256 ^ 0
    rw [Int.pow_zero, Int.emod_one]
  | n + 1, v, hv => by
    rw [putL_snoc, getL_snoc, getL_putL n v hv, putL_length]
    unfold byteAt
    obtain ⟨V, rfl⟩ := Int.eq_ofNat_of_zero_le hv
    have p : (256 : Int) ^ n = ((256 ^ n : Nat) : Int) := by rw [Int.natCast_pow]; rfl
    have p2 : (256 : Int) ^ (n + 1) = ((256 ^ (n + 1) : Nat) : Int) := by rw [Int.natCast_pow]; rfl
    rw [p, p2, ← Int.natCast_ediv, ← Int.natCast_emod]
    rw [show (256 : Int) = ((256 : Nat) : Int) from rfl, ← Int.natCast_emod, ← Int.natCast_mul, ← Int.natCast_add, ← Int.natCast_emod]
    rw [Nat.pow_succ, Nat.mod_mul, Nat.mul_comm (256 ^ n)]
theorem isBytes_nil : IsBytes [] := fun x hx => by cases hx
theorem isBytes_append {xs ys : List Int} (h : IsBytes xs) (h' : IsBytes ys) : IsBytes (xs ++ ys) := fun x hx => by
  rcases List.mem_append.1 hx with q | q
  · exact h x q
  · exact h' x q
theorem isBytes_putL (n : Nat) (v : Int) : IsBytes (putL n v) := fun x hx => by
  unfold putL at hx
  obtain ⟨k, _, rfl⟩ := List.mem_map.1 hx
  unfold byteAt
  omega
theorem isBytes_bytesI (op x a b : Int) : IsBytes (bytesI op x a b) := by
  have h1 : IsBytes [op % 256] := fun y hy => by
    rcases List.mem_cons.1 hy with rfl | q
    · omega
    · cases q
  have h2 : ∀ (c : Prop) [Decidable c] n v, IsBytes (if c then putL n v else []) := fun c _ n v => by
    split
    · exact isBytes_putL _ _
    · exact isBytes_nil
  unfold bytesI
  exact isBytes_append (isBytes_append (isBytes_append h1 (h2 _ _ _)) (h2 _ _ _)) (h2 _ _ _)
theorem cutL_mid (A P R : List Int) : cutL (A ++ (P ++ R)) A.length (A.length + P.length) = P := by
  unfold cutL
  rw [List.drop_left, Nat.add_sub_cancel_left, List.take_left]
theorem ok_in {op : Int} (h : shOk op = true) : 0 ≤ op ∧ op < 37 := by
  rcases (show (op < 0 ∨ 37 ≤ op) ∨ (0 ≤ op ∧ op < 37) by omega) with q | q
  · unfold shOk kindOf at h; rw [if_pos q] at h; cases h
  · exact q
theorem may_parts {op x a b : Int} (h : mayB op x a b = true) : shOk op = true ∧ (shX op = true ∨ x = 0) ∧ smallB a (decide (0 < shN op)) = true ∧ smallB b (decide (1 < shN op)) = true := by
  unfold mayB at h
  simp only [Bool.and_eq_true, Bool.or_eq_true, decide_eq_true_iff] at h
  exact ⟨h.1.1.1, h.1.1.2, h.1.2, h.2⟩
theorem small_no {a : Int} (h : smallB a false = true) : a = 0 := by
  unfold smallB at h; simpa using h
theorem word8 {x : Int} (h : 0 ≤ x) (h2 : x < 18446744073709551616) : getL ((putL 8 x).take 8) = x := by
  rw [List.take_of_length_le (by rw [putL_length]; exact Nat.le_refl _), getL_putL 8 x h]
  exact Int.emod_eq_of_lt h h2
theorem word2 {x : Int} (h : 0 ≤ x) (h2 : x ≤ 65535) : getL ((putL 2 x).take 8) = x := by
  rw [List.take_of_length_le (by rw [putL_length]; decide), getL_putL 2 x h]
  exact Int.emod_eq_of_lt h (by show x < 65536; omega)
theorem szR_pos2 (op : Int) : 0 < szR op := by unfold szR; omega
theorem bytesI_sz (op x a b : Int) : (bytesI op x a b).length = szR op := by
  rw [bytesI_length]; unfold szR
  rcases kinds op with ⟨_, k2, k3⟩ | ⟨_, k2, k3⟩ | ⟨_, k2, k3⟩ | ⟨_, k2, k3⟩ | ⟨_, k2, k3⟩ <;> rw [k2, k3] <;> rfl
theorem bytes_back {op x a b : Int} (h : mayB op x a b = true) (hx : 0 ≤ x) (hx2 : x < 18446744073709551616) (R : List Int) :
    okR (bytesI op x a b ++ R) = true ∧ opR (bytesI op x a b ++ R) = op ∧ xR (bytesI op x a b ++ R) = x ∧ aR (bytesI op x a b ++ R) = a ∧ bR (bytesI op x a b ++ R) = b := by
  obtain ⟨m1, m2, m3, m4⟩ := may_parts h
  obtain ⟨o1, o2⟩ := ok_in m1
  obtain ⟨⟨a1, a2⟩, b1, b2⟩ := may_arg h
  have hm : op % 256 = op := by omega
  have hop : opR (bytesI op x a b ++ R) = op := by
    unfold opR bytesI
    simp only [List.append_assoc, List.cons_append, List.getD_cons_zero]
    exact hm
  have hok : okR (bytesI op x a b ++ R) = true := by
    unfold okR
    rw [hop, m1]
    simp only [List.length_append, bytesI_sz, Bool.and_true, Bool.and_eq_true, decide_eq_true_iff]
    have : 0 < szR op := by unfold szR; omega
    omega
  refine ⟨hok, hop, ?_⟩
  unfold xR aR bR
  rw [hop]
  rcases kinds op with ⟨k1, k2, k3⟩ | ⟨k1, k2, k3⟩ | ⟨k1, k2, k3⟩ | ⟨k1, k2, k3⟩ | ⟨k1, k2, k3⟩
  · rw [m1] at k1; cases k1
  · rw [k2] at m3 m4 ⊢
    rw [k3] at m2 ⊢
    have e1 := small_no m3
    have e2 := small_no m4
    rcases m2 with q | q
    · cases q
    · exact ⟨by rw [q]; rfl, by rw [e1]; rfl, by rw [e2]; rfl⟩
  · have hb : bytesI op x a b = [op % 256] ++ putL 8 x := by unfold bytesI; rw [k2, k3]; simp
    rw [k2] at m3 m4 ⊢
    rw [k3, hb, List.append_assoc]
    have e1 := small_no m3
    have e2 := small_no m4
    have c := cutL_mid [op % 256] (putL 8 x) R
    rw [putL_length] at c
    refine ⟨?_, by rw [e1]; rfl, by rw [e2]; rfl⟩
    rw [if_pos rfl]
    rw [show cutL ([op % 256] ++ (putL 8 x ++ R)) 1 9 = putL 8 x from c]
    exact word8 hx hx2
  · have hb : bytesI op x a b = [op % 256] ++ putL 2 a := by unfold bytesI; rw [k2, k3]; simp
    rw [k2] at m3 m4 ⊢
    rw [k3] at m2 ⊢
    rw [hb, List.append_assoc]
    have e2 := small_no m4
    have c := cutL_mid [op % 256] (putL 2 a) R
    rw [putL_length] at c
    rcases m2 with q | q
    · cases q
    · refine ⟨by rw [q]; rfl, ?_, by rw [e2]; rfl⟩
      rw [if_pos (by decide), show cutL ([op % 256] ++ (putL 2 a ++ R)) 1 3 = putL 2 a from c]
      exact word2 a1 a2
  · have hb : bytesI op x a b = [op % 256] ++ (putL 2 a ++ putL 2 b) := by unfold bytesI; rw [k2, k3]; simp
    rw [k2] at m3 m4 ⊢
    rw [k3] at m2 ⊢
    rw [hb]
    have c := cutL_mid [op % 256] (putL 2 a) (putL 2 b ++ R)
    have c2 := cutL_mid ([op % 256] ++ putL 2 a) (putL 2 b) R
    rw [putL_length] at c c2
    rw [List.length_append, putL_length] at c2
    have s1 : [op % 256] ++ (putL 2 a ++ putL 2 b) ++ R = [op % 256] ++ (putL 2 a ++ (putL 2 b ++ R)) := by simp
    have s2 : [op % 256] ++ putL 2 a ++ (putL 2 b ++ R) = [op % 256] ++ (putL 2 a ++ (putL 2 b ++ R)) := by simp
    rw [s2] at c2
    rw [s1]
    rcases m2 with q | q
    · cases q
    · refine ⟨by rw [q]; rfl, ?_, ?_⟩
      · rw [if_pos (by decide), show cutL ([op % 256] ++ (putL 2 a ++ (putL 2 b ++ R))) 1 3 = putL 2 a from c]
        exact word2 a1 a2
      · rw [if_pos (by decide), show cutL ([op % 256] ++ (putL 2 a ++ (putL 2 b ++ R))) 3 5 = putL 2 b from c2]
        exact word2 b1 b2
def lstB (l : List Int) : List Int := [(l.length : Int) % 256] ++ l.map (· % 256)
def lstK (l : List Int) (k : Nat) : List Int := [(l.length : Int) % 256] ++ (l.take k).map (· % 256)
def bytIn (i : In4) : List Int := bytesI i.op i.x i.a i.b
def bytF (f : FnM) : List Int := lstB f.ps ++ lstB f.ls ++ [f.r % 256, (f.code.length : Int) % 256] ++ f.code.flatMap bytIn
def headP (u : Bool) : List Int := [84, 77, 66, 49, if u then 1 else 0]
def bytP (p : PrM) : List Int := headP p.u ++ lstB p.gl ++ [p.m % 256, (p.fs.length : Int) % 256] ++ p.fs.flatMap bytF
def GoodIn (i : In4) : Prop := 0 ≤ i.x ∧ i.x < 18446744073709551616
def GoodP (p : PrM) : Prop := ∀ f ∈ p.fs, ∀ i ∈ f.code, GoodIn i
theorem lstB_length (l : List Int) : (lstB l).length = l.length + 1 := by unfold lstB; simp
theorem lstK_zero (l : List Int) : lstK l 0 = [(l.length : Int) % 256] := by unfold lstK; simp
theorem lstK_succ {l : List Int} {k : Nat} (h : k < l.length) : lstK l (k + 1) = lstK l k ++ [l.getD k 0 % 256] := by
  unfold lstK
  rw [List.take_succ_eq_append_getElem h, List.map_append, List.append_assoc, List.getD_eq_getElem?_getD, List.getElem?_eq_getElem h]; rfl
theorem lstK_all {l : List Int} {k : Nat} (h : l.length ≤ k) : lstK l k = lstB l := by unfold lstK lstB; rw [List.take_of_length_le h]
theorem lstK_len (l : List Int) (k : Nat) : (lstK l k).length ≤ l.length + 1 := by unfold lstK; simp; omega
theorem bytIn_le (i : In4) : (bytIn i).length ≤ 13 := by
  unfold bytIn; rw [bytesI_sz]; unfold szR
  rcases kinds i.op with ⟨_, k2, k3⟩ | ⟨_, k2, k3⟩ | ⟨_, k2, k3⟩ | ⟨_, k2, k3⟩ | ⟨_, k2, k3⟩ <;> rw [k2, k3] <;> decide
theorem flat_le {α : Type} {f : α → List Int} {c : Nat} : ∀ {L : List α} (_ : ∀ x ∈ L, (f x).length ≤ c), (L.flatMap f).length ≤ c * L.length
  | [], _ => by simp
  | x :: l, h => by
    have h1 := h x (List.mem_cons_self ..)
    have h2 := flat_le (L := l) (fun y hy => h y (List.mem_cons_of_mem _ hy))
    rw [List.flatMap_cons, List.length_append, List.length_cons, Nat.mul_succ]; omega
theorem flat_snoc {α : Type} {f : α → List Int} {L : List α} {k : Nat} (h : k < L.length) : (L.take (k + 1)).flatMap f = (L.take k).flatMap f ++ f L[k] := by
  rw [List.take_succ_eq_append_getElem h, List.flatMap_append]; simp
/-- What a function that may be is. -/
structure OkF (f : FnM) : Prop where
  p : f.ps.length ≤ 8
  l : f.ls.length ≤ 8
  r : 0 ≤ f.r ∧ f.r ≤ 3
  c1 : 1 ≤ f.code.length
  c2 : f.code.length ≤ 96
  i : ∀ i ∈ f.code, mayI i = true
  kp : ∀ x ∈ f.ps, 0 ≤ x ∧ x ≤ 3
  kl : ∀ x ∈ f.ls, 0 ≤ x ∧ x ≤ 3
  pl : f.ps.length + f.ls.length ≤ 8
theorem kinds_all {xs : List Int} {most : Int} (h : kindsB xs most = true) : (∀ x ∈ xs, 0 ≤ x ∧ x ≤ 3) ∧ (xs.length : Int) ≤ most := by
  unfold kindsB at h
  rw [Bool.and_eq_true] at h
  refine ⟨fun x hx => ?_, of_decide_eq_true h.2⟩
  have := List.all_eq_true.1 h.1 x hx
  unfold kindB at this
  rw [Bool.and_eq_true] at this
  exact ⟨of_decide_eq_true this.1, of_decide_eq_true this.2⟩
theorem okF_of {f : FnM} (h : mayF f = true) : OkF f := by
  unfold mayF at h
  simp only [Bool.and_eq_true] at h
  obtain ⟨h1, h2, h3, h4, h5, h6, h7⟩ := h
  obtain ⟨a1, a2⟩ := kinds_all h1
  obtain ⟨b1, b2⟩ := kinds_all h2
  have h3 := of_decide_eq_true h3
  have h4 := of_decide_eq_true h4
  have h5 := of_decide_eq_true h5
  have h6 := of_decide_eq_true h6
  exact ⟨by omega, by omega, ⟨h3, h4⟩, h5, h6, fun i hi => List.all_eq_true.1 h7 i hi, a1, b1, by omega⟩
structure OkP (p : PrM) : Prop where
  f1 : 1 ≤ p.fs.length
  f2 : p.fs.length ≤ 16
  m : 0 ≤ p.m ∧ p.m ≤ 4
  g : p.gl.length ≤ 8
  kg : ∀ x ∈ p.gl, 0 ≤ x ∧ x ≤ 3
  f : ∀ f ∈ p.fs, OkF f
theorem okP_of {p : PrM} (h : mayP p = true) : OkP p := by
  unfold mayP at h
  simp only [Bool.and_eq_true] at h
  obtain ⟨h1, h2, h3, h4, h5, h6⟩ := h
  obtain ⟨a1, a2⟩ := kinds_all h5
  have h1 := of_decide_eq_true h1
  have h2 := of_decide_eq_true h2
  have h3 := of_decide_eq_true h3
  have h4 := of_decide_eq_true h4
  exact ⟨h1, h2, ⟨h3, h4⟩, by omega, a1, fun f hf => okF_of (List.all_eq_true.1 h6 f hf)⟩
theorem small_ok {p : PrM} (h : OkP p) : SmallP p := ⟨by have := h.g; omega, by have := h.f2; omega, fun f hf => ⟨by have := (h.f f hf).p; omega, by have := (h.f f hf).l; omega, by have := (h.f f hf).c2; omega⟩⟩
theorem code_len {c : List In4} (k : Nat) (h : c.length ≤ 96) : ((c.take k).flatMap bytIn).length ≤ 1248 := by
  have h1 := flat_le (f := bytIn) (c := 13) (L := c.take k) (fun i _ => bytIn_le i)
  have h2 : (c.take k).length ≤ 96 := by simp; omega
  have := Nat.mul_le_mul_left 13 h2; omega
theorem bytF_len {f : FnM} (h : OkF f) : (bytF f).length ≤ 1268 := by
  have h1 := code_len f.code.length h.c2
  rw [List.take_length] at h1
  unfold bytF
  simp only [List.length_append, lstB_length, List.length_cons, List.length_nil]
  have := h.p; have := h.l; omega
theorem fs_len {fs : List FnM} (k : Nat) (h : fs.length ≤ 16) (h' : ∀ f ∈ fs, OkF f) : ((fs.take k).flatMap bytF).length ≤ 20288 := by
  have h1 := flat_le (f := bytF) (c := 1268) (L := fs.take k) (fun f hf => bytF_len (h' f (List.mem_of_mem_take hf)))
  have h2 : (fs.take k).length ≤ 16 := by simp; omega
  have := Nat.mul_le_mul_left 1268 h2; omega
def BYTT : TypeId := 5
/-- Nothing that is of another type than bytes turns. -/
def KeepB (w w' : World) : Prop := w.heap.size ≤ w'.heap.size ∧ ∀ k, k < w.heap.size → tyB w k ≠ some BYTT → w'.heap[k]? = w.heap[k]?
theorem keepB_refl (w : World) : KeepB w w := ⟨Nat.le_refl _, fun _ _ _ => rfl⟩
theorem keepB_below {w w' : World} (hb : Below w.heap.size w w') : KeepB w w' := ⟨hb.size, fun k hk _ => hb.block k hk⟩
theorem keepB_trans {a b c : World} (h : KeepB a b) (h' : KeepB b c) : KeepB a c := ⟨Nat.le_trans h.1 h'.1, fun k hk hT => by
  have e := h.2 k hk hT
  rw [h'.2 k (Nat.lt_of_lt_of_le hk h.1) (by rw [tyB_block e]; exact hT), e]⟩
theorem ownB_ty {w : World} {B : Nat} {v : Value} {xs : List Int} (h : OwnB w B v xs) : ∀ k, v.ownBlock = some k → tyB w k = some BYTT := fun k hk => by
  rcases h.2 with ⟨rfl, _⟩ | ⟨g, cap, cur, rfl, _, hh, _⟩
  · cases hk
  · have e : g = k := by have e1 : some g = some k := hk; injection e1
    subst e
    unfold tyB; rw [hh]; rfl
theorem keepB_own {w w' : World} {v : Value} {xs : List Int} {B : Nat} (own : OwnB w B v xs) (hg : w.grownBy w' v.ownBlock) : KeepB w w' := ⟨hg.size, fun k hk hT => hg.block k hk (fun e => hT (ownB_ty own k e.symm))⟩
theorem keepB_alloc {w w' : World} (h : KeepB w w') (o : Obj) : KeepB w (w'.alloc o) := keepB_trans h (keepB_below (b_alloc (Below.refl _ _) o))
theorem keepB_drew {w w' : World} (h : KeepB w w') : KeepB w w'.drew := ⟨h.1, h.2⟩
theorem keepB_blk {w w' : World} {g : Nat} {vs : List Value} {T : TypeId} (h : Blk w g vs) (hT : tyB w g = some T) (hne : T ≠ BYTT) (hk : KeepB w w') : Blk w' g vs := by
  have e := hk.2 g h.1 (by rw [hT]; intro e; injection e with e; exact hne e)
  exact ⟨Nat.lt_of_lt_of_le h.1 hk.1, fun i hi => (World.cell?_of_block (w := w) e).trans (h.2.1 i hi), fun i => (World.frozen?_of_block (w := w) e).trans (h.2.2 i)⟩
/-- What a call leaves that puts bytes behind others. -/
def PutB (W w : World) (ys : List Int) (e : Ending) (w' : World) : Prop := ∃ v, e = .returned v ∧ OwnB w' W.heap.size v ys ∧ Below W.heap.size W w' ∧ KeepB w w'
theorem ownB_lits {w : World} {B : Nat} (xs : List Int) (cs : Array Value) (hc : cs = (byts xs).toArray) (n : Nat) (hn : n = xs.length) (hm : xs.length ≤ maxLen) (hB : B ≤ w.heap.size) : OwnB (w.alloc (.cells cs BYTT)) B (.slice (some ⟨w.heap.size, 0, none⟩) n n) xs := by
  subst hc; subst hn
  have := World.ownsRow_lit (base := B) (e := BYTT) (size := 1) w (byts xs).toArray xs.length hB hm (by simp [byts_length])
  exact this
theorem read_twoB (w : World) (x y : Int) : ReadB (w.alloc (.cells #[.int .u8 x, .int .u8 y] BYTT)) (.slice (some ⟨w.heap.size, 0, none⟩) 2 2) [x, y] :=
  readB_mk (xs := [x, y]) (Nat.le_refl _) (by unfold maxLen; decide) (by simp) (fun i hi => by
    have e : i = 0 ∨ i = 1 := by simp at hi; omega
    rcases e with rfl | rfl <;> rw [World.cell?_alloc_new] <;> rfl)
theorem read_twoB2 {w : World} {x y : Int} {k : Nat} (hk : k = w.heap.size) : ReadB (w.alloc (.cells #[.int .u8 x, .int .u8 y] BYTT)) (.slice (some ⟨k, 0, none⟩) 2 2) [x, y] := by rw [hk]; exact read_twoB w x y
theorem read_oneB2 {w : World} {x : Int} {k : Nat} (hk : k = w.heap.size) : ReadB (w.alloc (.cells #[.int .u8 x] BYTT)) (.slice (some ⟨k, 0, none⟩) 1 1) [x] := by rw [hk]; exact read_oneB w x
theorem ownB_put {w : World} {B g n cap : Nat} {xs : List Int} (h : OwnB w B (.slice (some ⟨g, 0, none⟩) n cap) xs) (hn : n = xs.length) (j : Nat) (x : Int) : OwnB (w.setCell ⟨g, j, none⟩ (.int .u8 x)) B (.slice (some ⟨g, 0, none⟩) n cap) (xs.set j x) := by
  subst hn
  have := (World.ownsRow.stored h j (.int .u8 x)).1
  unfold OwnB
  rw [List.length_set]
  have e : byts (xs.set j x) = (byts xs).set j (.int .u8 x) := by unfold byts; rw [List.map_set]
  rw [e]; exact this
/-- A program that Cut has made: its lists are older ones, but for the functions' own row. -/
structure CutMade (W0 : World) (B : Nat) (w' : World) (q : PrV) (C : PrM) : Prop where
  u : q.u = C.u
  m : q.m = C.m
  g : ReadI W0 (.slice q.g.a q.g.n q.g.c) C.gl
  f : ∃ L, OwnR fnE 35 w' B (.slice q.f.a q.f.n q.f.c) L ∧ AllF W0 L C.fs
theorem cutMade_read {W0 w' : World} {B : Nat} {q : PrV} {C : PrM} (h : CutMade W0 B w' q C) (hb : Below W0.heap.size W0 w') : ReadP w' q C := by
  obtain ⟨h1, h2, h3, L, h4, h5⟩ := h
  exact ⟨h1, readI_below h3 hb, h2, L, ownR_read h4, allF_below hb h5⟩
theorem cutMade_grown {W0 w w' : World} {B j : Nat} {q : PrV} {C : PrM} (h : CutMade W0 B w q C) (hg : w.grownBy w' (some j)) (hj : j < B) : CutMade W0 B w' q C := by
  obtain ⟨h1, h2, h3, L, h4, h5⟩ := h
  refine ⟨h1, h2, h3, L, ownR_kept h4 hg ?_, h5⟩
  cases hv : (Value.slice q.f.a q.f.n q.f.c).ownBlock with
  | none => exact Or.inl rfl
  | some i => exact Or.inr (by intro e; injection e with e; have := (ownR_lt h4 i hv).1; omega)
theorem cutM_end {W0 w' : World} {u : Bool} {ga : Option Addr} {gn gc : Nat} {m : Int} {va : Option Addr} {n0 vc B : Nat} {L : List FnV} {P : PrM} {k : Nat} (hu : u = P.u) (hg : ReadI W0 (.slice ga (c10 gn) gc) (P.gl.take 10)) (hm : m = P.m) (hA : AllF W0 L P.fs) (hk : k = 17 ∨ (k = L.length ∧ k ≤ 17)) (own : OwnR fnE 35 w' B (.slice va n0 vc) ((L.take k).map cutV)) :
    CutMade W0 B w' ⟨u, ⟨ga, c10 gn, gc⟩, m, ⟨va, n0, vc⟩⟩ (cutP P) := by
  refine ⟨hu, hm, hg, _, own, ?_⟩
  have e : P.fs.take 17 = P.fs.take k := by
    have hl := allF_len hA
    rcases hk with rfl | ⟨h1, h2⟩
    · rfl
    · rw [List.take_of_length_le (by omega), List.take_of_length_le (by omega)]
  show AllF W0 _ ((P.fs.take 17).map cutF)
  rw [e]
  exact allF_cut k hA
set_option maxRecDepth 100000 in
set_option maxHeartbeats 2000000 in
theorem cut_made (p : PrV) (P : PrM) (W0 w : World) (h0 : ReadP W0 p P) (hb0 : Below W0.heap.size W0 w) : Calls Try.prog 15 #[aggP p] w fun e w' => ∃ q, e = .returned (aggP q) ∧ CutMade W0 w.heap.size w' q (cutP P) ∧ Below w.heap.size w w' := by
  obtain ⟨u, ⟨ga, gn, gc⟩, m, ⟨fa, fn, fc⟩⟩ := p
  obtain ⟨hu, hg0, hm, L, hL0, hA0⟩ := h0
  simp only at hu hm
  unfold Sl.v at hg0 hL0
  simp only at hg0 hL0
  have hg := readI_below hg0 hb0
  have hL := readR_below hL0 hb0
  have hA := allF_below hb0 hA0
  have HG0 := Lib.hid (readI_c10 hg0)
  have HA0 := Lib.hid hA0
  clear hg0 hL0 hA0 hb0
  obtain ⟨hg1, hg2, hg3⟩ := sli_cap hg
  obtain ⟨hf1, hf2, hf3⟩ := slr_cap hL
  subst hf3
  have hfm := cap_le hf2
  have HCI := Lib.hid (fun w => ints_any ga gn gc w hg1 hg2)
  have hGT := readI_c10 hg
  have HGT := Lib.hid hGT
  have HL := Lib.hid hL; have HA := Lib.hid hA
  have HU := Lib.hid hu; have HM := Lib.hid hm
  clear hg hL hA hGT hu hm hg3
  unfold aggP Sl.v
  simp only
  go_enter Try.func15, Try.ntmps15
  go_upto_region 1 with fail
  refine wp_named ?_
  intro W hW
  have BX : Blk W w.heap.size [.bool u, .slice ga gn gc, .int .i64 m, .slice fa L.length fc] := by rw [hW]; exact blk_alloc (blk_new _ _ _) _
  have BR : Blk W (w.heap.size + 1) [.bool false, .slice none 0 0, .int .i64 0, .slice none 0 0] := by
    have q := blk_new (w.alloc (.cells #[.bool u, .slice ga gn gc, .int .i64 m, .slice fa L.length fc] 25)) #[.bool false, .slice none 0 0, .int .i64 0, .slice none 0 0] 25
    rw [World.size_alloc] at q
    rw [hW]; exact q
  have hBW : Below w.heap.size w W := by rw [hW]; exact b_alloc (b_alloc (Below.refl _ _) _) _
  have hWs : w.heap.size + 2 ≤ W.heap.size := by have := BR.1; omega
  have HBX := Lib.hid BX; have HBR := Lib.hid BR
  obtain ⟨x0, x1, x2, x3, xf⟩ := blk4 BX
  clear hW BX BR
  go_cut [3] (fun s wx => ∃ g, s = .pointer (some ⟨g, 0, none⟩) ∧ W.heap.size ≤ g ∧ CutSt W wx g u (.slice ga (c10 gn) gc) m [])
  case first =>
    have HW : Hid (∀ w', Below W.heap.size W w' → w'.cell? ⟨w.heap.size, 0, none⟩ = some (.bool u) ∧ w'.cell? ⟨w.heap.size, 1, none⟩ = some (.slice ga gn gc) ∧ w'.cell? ⟨w.heap.size, 2, none⟩ = some (.int .i64 m)) := Lib.hid (fun w' hb => by
      obtain ⟨y0, y1, y2, y3, yf⟩ := blk4 (blk_below HBX.out hb)
      exact ⟨y0, y1, y2⟩)
    go_region_held3 (fun w' => w'.cell? ⟨w.heap.size, 0, none⟩ = some (.bool u) ∧ w'.cell? ⟨w.heap.size, 1, none⟩ = some (.slice ga gn gc) ∧ w'.cell? ⟨w.heap.size, 2, none⟩ = some (.int .i64 m))
      (exact HW.out _ (by (repeat' (first | exact Below.refl _ _ | assumption | refine b_alloc ?_ _ | refine b_drew ?_ | refine b_set ?_ (by simp) _))))
      (first | (go_at_call 57; refine (HCI.out _).mono ?_; rintro e w' ⟨rfl, rfl⟩))
    all_goals
      go_wp2_with fail
      go_meet
      case rel => exact ⟨_, rfl, Nat.le_refl _, .slice none 0 0, ownR_nil _ _, blk_drew (blk_new W #[.bool u, .slice ga (c10 gn) gc, .int .i64 m, .slice none 0 0] _), by (repeat' (first | exact Below.refl _ _ | assumption | refine b_alloc ?_ _ | refine b_drew ?_))⟩
  case rest =>
    obtain ⟨g, rfl, hgW, hst⟩ := hcut
    have hx3 : wc.cell? ⟨w.heap.size, 3, none⟩ = some (.slice fa L.length fc) := by
      obtain ⟨v0, _, _, hb⟩ := hst
      exact (blk4 (blk_below HBX.out hb)).2.2.2.1
    have HST := Lib.hid hst
    clear x0 x1 x2 x3 xf hst
    go_wp2_with fail
    go_loopw [18] (fun i wr => ∃ k : Nat, k ≤ L.length ∧ k ≤ 17 ∧ i = .int .i64 k ∧ Hid (CutSt W wr g u (.slice ga (c10 gn) gc) m ((L.take k).map cutV))) (fun i _ => L.length - (intOf i).toNat)
    case atStart => exact ⟨0, Nat.zero_le _, by omega, rfl, HST.out⟩
    case round =>
      obtain ⟨k, hk, hk17, rfl, hp⟩ := hrel
      obtain ⟨v0, hown, hblk, hbw⟩ := hp.out
      have hgl := hblk.1
      obtain ⟨y0, y1, y2, y3, yf⟩ := blk4 hblk
      have k0 : (0 : Int) ≤ k := by omega
      have k17 : (k : Int) ≤ 17 := by omega
      have hrd := readR_below HL.out hBW
      by_cases hlt : k < L.length
      · obtain ⟨bl, off, cp, e1, r1, r2, hbl, r4⟩ := readR_pos hrd (by omega)
        cases e1
        have k1 : (k : Int) < L.length := by omega
        have hcs := fn_cells r4 k hlt
        rw [← (bcell hbw).1 _ _ hbl, ← (bcell hbw).1 _ _ hbl, ← (bcell hbw).1 _ _ hbl, ← (bcell hbw).1 _ _ hbl] at hcs
        have hAF : ∃ f, DeepF w L[k] f := ⟨_, allF_at HA.out k hlt (by rw [← allF_len HA.out]; exact hlt)⟩
        have HSN : Hid ((L.take (k + 1)).map cutV = (L.take k).map cutV ++ [cutV L[k]]) := by
          show _ = _
          rw [List.take_succ_eq_append_getElem hlt, List.map_append]; rfl
        generalize L[k] = f at *
        obtain ⟨⟨pa, pn, pc⟩, ⟨la, ln, lc⟩, r, ⟨ca, cn, cc⟩⟩ := f
        simp only at hcs
        obtain ⟨d0, d1, d2, d3⟩ := hcs
        obtain ⟨fm, df⟩ := hAF
        have hpc := sli_cap df.p
        have hlc := sli_cap df.l
        have hcc := slr_cap df.c
        simp only at hpc hlc hcc
        have hp1 := hpc.1; have hp2 := hpc.2.1; have hl1 := hlc.1; have hl2 := hlc.2.1
        have hc1 := hcc.1
        have hc2 := cap_le hcc.2.1
        have hc3 : (cn : Int) ≤ cc := by omega
        have hown2 := ownR_lt hown
        have HOWN := Lib.hid hown; have HBLK := Lib.hid hblk
        have HBW := Lib.hid hbw
        clear r4 hrd df hpc hlc hcc hown hblk hp hbw
        by_cases h17 : k < 17
        · have t17 : ¬ (17 : Int) ≤ k := by omega
          have HB5 : Hid (Below wr.heap.size wr (wr.alloc (.cells #[.slice pa pn pc, .slice la ln lc, .int .i64 r, .slice ca cn cc] 35))) := Lib.hid (b_alloc (Below.refl _ _) _)
          have HX5 : Hid (Blk (wr.alloc (.cells #[.slice pa pn pc, .slice la ln lc, .int .i64 r, .slice ca cn cc] 35)) wr.heap.size [.slice pa pn pc, .slice la ln lc, .int .i64 r, .slice ca cn cc]) := Lib.hid (blk_new _ _ _)
          rcases (show (100 < cn ∧ c100 cn = 100) ∨ (¬ 100 < cn ∧ c100 cn = cn) by unfold c100; split <;> omega) with ⟨q, hq⟩ | ⟨q, hq⟩
          · have q1 : (100 : Int) < cn := by omega
            have q2 : (100 : Int) ≤ cc := by omega
            have q3 : 100 ≤ cc := by omega
            have HQ := Lib.hid hq; clear hq
            go_upto_region 9 with fail
            refine wp_named ?_
            intro W5 hW5
            have hb5 : Below wr.heap.size wr W5 := by rw [hW5]; exact HB5.out
            have X5 : Blk W5 wr.heap.size [.slice pa pn pc, .slice la ln lc, .int .i64 r, .slice ca cn cc] := by rw [hW5]; exact HX5.out
            have own5 := ownR_below HOWN.out hb5
            have blk5 := blk_below HBLK.out hb5
            have HX := Lib.hid X5; have HO5 := Lib.hid own5; have HK5 := Lib.hid blk5
            have HS5 : Hid (∀ w', Blk w' g [.bool u, .slice ga (c10 gn) gc, .int .i64 m, v0] → Blk w' wr.heap.size [.slice pa pn pc, .slice la ln lc, .int .i64 r, .slice ca cn cc] → w'.cell? ⟨g, 3, none⟩ = some v0 ∧ w'.cell? ⟨wr.heap.size, 0, none⟩ = some (.slice pa pn pc) ∧ w'.cell? ⟨wr.heap.size, 1, none⟩ = some (.slice la ln lc) ∧ w'.cell? ⟨wr.heap.size, 2, none⟩ = some (.int .i64 r)) := Lib.hid (fun w' h1 h2 => by
              obtain ⟨_, _, _, a3, _⟩ := blk4 h1
              obtain ⟨b0, b1, b2, _, _⟩ := blk4 h2
              exact ⟨a3, b0, b1, b2⟩)
            have hw5s := hb5.size
            have hgl5 := blk5.1
            have hfz5 := blk5.2.2
            have hx5l := X5.1
            have hne1 : some g ≠ v0.ownBlock := fun e => by have := (hown2 _ e.symm).1; omega
            have hne2 : some wr.heap.size ≠ v0.ownBlock := fun e => by have := (hown2 _ e.symm).2; omega
            clear hW5 X5 own5 blk5 d0 d1 d2 d3 y0 y1 y2 y3 yf
            have HRN : Hid (ReadR fnE (W5.alloc (.cells #[.slice pa (c10 pn) pc, .slice la (c10 ln) lc, .int .i64 r, .slice ca 100 cc] 35)).drew (.slice (some ⟨W5.heap.size, 0, none⟩) 1 1) [⟨⟨pa, c10 pn, pc⟩, ⟨la, c10 ln, lc⟩, r, ⟨ca, 100, cc⟩⟩]) := readR_new (c := fnE) W5 _ ⟨⟨pa, c10 pn, pc⟩, ⟨la, c10 ln, lc⟩, r, ⟨ca, 100, cc⟩⟩
            have hLk : ((L.take k).map cutV).length ≤ 17 := by simp; omega
            have S5 := HS5.out _ (blk_drew HK5.out) (blk_drew HX.out)
            refine wp_region_E (S := (fun w' => w'.cell? ⟨g, 3, none⟩ = some v0 ∧ w'.cell? ⟨wr.heap.size, 0, none⟩ = some (.slice pa pn pc) ∧ w'.cell? ⟨wr.heap.size, 1, none⟩ = some (.slice la ln lc) ∧ w'.cell? ⟨wr.heap.size, 2, none⟩ = some (.int .i64 r))) 15 (by kernel_rfl) S5 (fun hHeld => ?_)
            clear S5
            (refine wpAnyE_take (n := 12) (i := 0) (v := ?_) rfl (by kernel_rfl) (by kernel_rfl) (by kernel_rfl) (by kernel_rfl) (by kernel_rfl) (fun _ _ _ h => h) (Or.inl ⟨by rfl, ?_⟩) hHeld ?_; rotate_left; (focus (intro w hSw; (try dsimp only at hSw); go_simp; try (with_reducible rfl))); (try simp only [Act.put, List.getElem_toArray, List.getElem_cons_succ, List.getElem_cons_zero, List.setIfInBounds_toArray, List.set_cons_zero, List.set_cons_succ]))
            (refine wpAnyE_take (n := 12) (i := 1) (v := ?_) rfl (by kernel_rfl) (by kernel_rfl) (by kernel_rfl) (by kernel_rfl) (by kernel_rfl) (fun _ _ _ h => h) (Or.inl ⟨by rfl, ?_⟩) hHeld ?_; rotate_left; (focus (intro w hSw; (try dsimp only at hSw); go_simp; try (with_reducible rfl))); (try simp only [Act.put, List.getElem_toArray, List.getElem_cons_succ, List.getElem_cons_zero, List.setIfInBounds_toArray, List.set_cons_zero, List.set_cons_succ]))
            (refine wpAnyE_take (n := 12) (i := 2) (v := ?_) rfl (by kernel_rfl) (by kernel_rfl) (by kernel_rfl) (by kernel_rfl) (by kernel_rfl) (fun _ _ _ h => h) (Or.inl ⟨by rfl, ?_⟩) hHeld ?_; rotate_left; (focus (intro w hSw; (try dsimp only at hSw); go_simp; try (with_reducible rfl))); (try simp only [Act.put, List.getElem_toArray, List.getElem_cons_succ, List.getElem_cons_zero, List.setIfInBounds_toArray, List.set_cons_zero, List.set_cons_succ]))
            (refine wpAnyE_take (n := 12) (i := 3) (v := ?_) rfl (by kernel_rfl) (by kernel_rfl) (by kernel_rfl) (by kernel_rfl) (by kernel_rfl) (fun _ _ _ h => h) (Or.inl ⟨by rfl, ?_⟩) hHeld ?_; rotate_left; (focus (intro w hSw; (try dsimp only at hSw); go_simp; try (with_reducible rfl))); (try simp only [Act.put, List.getElem_toArray, List.getElem_cons_succ, List.getElem_cons_zero, List.setIfInBounds_toArray, List.set_cons_zero, List.set_cons_succ]))
            (refine wpAnyE_take (n := 12) (i := 5) (v := ?_) rfl (by kernel_rfl) (by kernel_rfl) (by kernel_rfl) (by kernel_rfl) (by kernel_rfl) (fun _ _ _ h => h) (Or.inl ⟨by rfl, ?_⟩) hHeld ?_; rotate_left; (focus (intro w hSw; (try dsimp only at hSw); go_simp; try (with_reducible rfl))); (try simp only [Act.put, List.getElem_toArray, List.getElem_cons_succ, List.getElem_cons_zero, List.setIfInBounds_toArray, List.set_cons_zero, List.set_cons_succ]))
            (refine wpAnyE_take (n := 12) (i := 6) (v := ?_) rfl (by kernel_rfl) (by kernel_rfl) (by kernel_rfl) (by kernel_rfl) (by kernel_rfl) (fun _ _ _ h => h) (Or.inl ⟨by rfl, ?_⟩) hHeld ?_; rotate_left; (focus (intro w hSw; (try dsimp only at hSw); go_simp; try (with_reducible rfl))); (try simp only [Act.put, List.getElem_toArray, List.getElem_cons_succ, List.getElem_cons_zero, List.setIfInBounds_toArray, List.set_cons_zero, List.set_cons_succ]))
            (refine wpAnyE_take (n := 12) (i := 8) (v := ?_) rfl (by kernel_rfl) (by kernel_rfl) (by kernel_rfl) (by kernel_rfl) (by kernel_rfl) (fun _ _ _ h => h) (Or.inl ⟨by rfl, ?_⟩) hHeld ?_; rotate_left; (focus (intro w hSw; (try dsimp only at hSw); go_simp; try (with_reducible rfl))); (try simp only [Act.put, List.getElem_toArray, List.getElem_cons_succ, List.getElem_cons_zero, List.setIfInBounds_toArray, List.set_cons_zero, List.set_cons_succ]))
            (refine wpAnyE_take (n := 12) (i := 9) (v := ?_) rfl (by kernel_rfl) (by kernel_rfl) (by kernel_rfl) (by kernel_rfl) (by kernel_rfl) (fun _ _ _ h => h) (Or.inl ⟨by rfl, ?_⟩) hHeld ?_; rotate_left; (focus (intro w hSw; (try dsimp only at hSw); go_simp; try (with_reducible rfl))); (try simp only [Act.put, List.getElem_toArray, List.getElem_cons_succ, List.getElem_cons_zero, List.setIfInBounds_toArray, List.set_cons_zero, List.set_cons_succ]))
            (refine wpAnyE_take (n := 12) (i := 10) (v := ?_) rfl (by kernel_rfl) (by kernel_rfl) (by kernel_rfl) (by kernel_rfl) (by kernel_rfl) (fun _ _ _ h => h) (Or.inl ⟨by rfl, ?_⟩) hHeld ?_; rotate_left; (focus (intro w hSw; (try dsimp only at hSw); go_simp; try (with_reducible rfl))); (try simp only [Act.put, List.getElem_toArray, List.getElem_cons_succ, List.getElem_cons_zero, List.setIfInBounds_toArray, List.set_cons_zero, List.set_cons_succ]))
            refine wpAnyE_ready (rs := [4]) (by kernel_rfl) (by simp) (AllReadyE.cons rfl (fun K hK => ?_) AllReadyE.nil)
            go_simp
            refine (ints_any _ _ _ _ (by assumption) (by assumption)).mono ?_
            rintro e w' ⟨rfl, rfl⟩
            refine hK.out _ _ (hHeld) (fun hHeld => ?_)
            clear hK K
            (try simp only [Act.put, List.getElem_toArray, List.getElem_cons_succ, List.getElem_cons_zero, List.setIfInBounds_toArray, List.set_cons_zero, List.set_cons_succ])
            refine wpAnyE_ready (rs := [7]) (by kernel_rfl) (by simp) (AllReadyE.cons rfl (fun K hK => ?_) AllReadyE.nil)
            go_simp
            refine (ints_any _ _ _ _ (by assumption) (by assumption)).mono ?_
            rintro e w' ⟨rfl, rfl⟩
            refine hK.out _ _ (hHeld) (fun hHeld => ?_)
            clear hK K
            (try simp only [Act.put, List.getElem_toArray, List.getElem_cons_succ, List.getElem_cons_zero, List.setIfInBounds_toArray, List.set_cons_zero, List.set_cons_succ])
            (refine wpAnyE_take (n := 12) (i := 11) (v := ?_) rfl (by kernel_rfl) (by kernel_rfl) (by kernel_rfl) (by kernel_rfl) (by kernel_rfl) (fun _ _ _ h => h) (Or.inl ⟨by rfl, ?_⟩) hHeld ?_; rotate_left; (focus (intro w hSw; (try dsimp only at hSw); go_simp; try (with_reducible rfl))); (try simp only [Act.put, List.getElem_toArray, List.getElem_cons_succ, List.getElem_cons_zero, List.setIfInBounds_toArray, List.set_cons_zero, List.set_cons_succ]))
            refine wpAnyE_ready (rs := [12]) (by kernel_rfl) (by simp) (AllReadyE.cons rfl (fun K hK => ?_) AllReadyE.nil)
            go_simp
            refine hK.out _ _ (HS5.out _ (blk_drew (blk_alloc HK5.out _)) (blk_drew (blk_alloc HX.out _))) (fun hHeld => ?_)
            clear hK K
            (try simp only [Act.put, List.getElem_toArray, List.getElem_cons_succ, List.getElem_cons_zero, List.setIfInBounds_toArray, List.set_cons_zero, List.set_cons_succ])
            refine wpAnyE_ready (rs := [13]) (by kernel_rfl) (by simp) (AllReadyE.cons rfl (fun K hK => ?_) AllReadyE.nil)
            refine step_appendR rowFn (by rfl) _ _ (by rfl) (g + 1) v0 ((L.take k).map cutV) (by rfl) (ownR_drew (ownR_alloc HO5.out _)) _ [⟨⟨pa, c10 pn, pc⟩, ⟨la, c10 ln, lc⟩, r, ⟨ca, 100, cc⟩⟩] (by rfl) HRN.out (by rw [List.length_singleton]; omega) (by rw [List.length_singleton]; unfold maxLen; omega) (by rw [World.size_drew, World.size_alloc]; omega) ?_
            intro v9 w9 own9 hg9
            obtain ⟨L9, hL9⟩ : ∃ L9, L9 = (L.take k).map cutV ++ [⟨⟨pa, c10 pn, pc⟩, ⟨la, c10 ln, lc⟩, r, ⟨ca, 100, cc⟩⟩] := ⟨_, rfl⟩
            rw [← hL9] at own9
            obtain ⟨g9, cap9, rfl, gg9, _⟩ := ownR_form own9 (by rw [hL9]; simp)
            have HL9 : Hid ((L.take (k + 1)).map cutV = L9) := by
              show _ = _
              rw [HSN.out, hL9]
              have e : cutV ⟨⟨pa, pn, pc⟩, ⟨la, ln, lc⟩, r, ⟨ca, cn, cc⟩⟩ = ⟨⟨pa, c10 pn, pc⟩, ⟨la, c10 ln, lc⟩, r, ⟨ca, 100, cc⟩⟩ := by unfold cutV; simp only [HQ.out]
              rw [e]
            have K9 := blk_grown (blk_drew (blk_alloc HK5.out _)) hg9 hne1
            have X9 := blk_grown (blk_drew (blk_alloc HX.out _)) hg9 hne2
            have B9 : Below W.heap.size W w9 := b_gr0 (b_drew (b_alloc (b_call HBW.out hb5) _)) hg9 (fun j hj => by have := (hown2 j hj).1; omega)
            clear hL9
            refine hK.out _ _ (HS5.out _ K9 X9) (fun hHeld => ?_)
            clear hK K
            (try simp only [Act.put, List.getElem_toArray, List.getElem_cons_succ, List.getElem_cons_zero, List.setIfInBounds_toArray, List.set_cons_zero, List.set_cons_succ])
            (refine wpAnyE_take (n := 12) (i := 14) (v := ?_) rfl (by kernel_rfl) (by kernel_rfl) (by kernel_rfl) (by kernel_rfl) (by kernel_rfl) (fun _ _ _ h => h) (Or.inl ⟨by rfl, ?_⟩) hHeld ?_; rotate_left; (focus (intro w hSw; (try dsimp only at hSw); go_simp; try (with_reducible rfl))); (try simp only [Act.put, List.getElem_toArray, List.getElem_cons_succ, List.getElem_cons_zero, List.setIfInBounds_toArray, List.set_cons_zero, List.set_cons_succ]))
            obtain ⟨z0, z1, z2, z3, zf⟩ := blk4 K9
            have ST : CutSt W (w9.setCell ⟨g, 3, none⟩ (.slice (some ⟨g9, 0, none⟩) L9.length cap9)) g u (.slice ga (c10 gn) gc) m ((L.take (k + 1)).map cutV) := by
              rw [HL9.out]
              exact ⟨_, ownR_kept own9 (gb_set (gb_refl w9 (some g)) 3 none _) (Or.inr (by intro e; have e2 : some g9 = some g := e; injection e2; omega)), blk_set K9 3 _, b_set B9 hgW _⟩
            have HSTT := Lib.hid ST
            clear ST own9 hg9 K9 X9 B9 z0 z1 z2 hHeld
            refine wpAnyE_ready (rs := [15]) (by kernel_rfl) (by simp) (AllReadyE.last rfl (fun K hK => ?_))
            go_simp
            refine hK.out _ _ (trivial) (fun hHeld => ?_)
            clear hK K
            (try simp only [Act.put, List.getElem_toArray, List.getElem_cons_succ, List.getElem_cons_zero, List.setIfInBounds_toArray, List.set_cons_zero, List.set_cons_succ])
            refine wpAnyE_done (by kernel_rfl) ?_
            go_wp2_with fail
            exact ⟨⟨k + 1, by omega, by omega, by go_num, HSTT⟩, by simp only [intOf]; omega⟩
          · have q1 : ¬ (100 : Int) < cn := by omega
            have HQ := Lib.hid hq; clear hq
            go_upto_region 9 with fail
            refine wp_named ?_
            intro W5 hW5
            have hb5 : Below wr.heap.size wr W5 := by rw [hW5]; exact HB5.out
            have X5 : Blk W5 wr.heap.size [.slice pa pn pc, .slice la ln lc, .int .i64 r, .slice ca cn cc] := by rw [hW5]; exact HX5.out
            have own5 := ownR_below HOWN.out hb5
            have blk5 := blk_below HBLK.out hb5
            have HX := Lib.hid X5; have HO5 := Lib.hid own5; have HK5 := Lib.hid blk5
            have HS5 : Hid (∀ w', Blk w' g [.bool u, .slice ga (c10 gn) gc, .int .i64 m, v0] → Blk w' wr.heap.size [.slice pa pn pc, .slice la ln lc, .int .i64 r, .slice ca cn cc] → w'.cell? ⟨g, 3, none⟩ = some v0 ∧ w'.cell? ⟨wr.heap.size, 0, none⟩ = some (.slice pa pn pc) ∧ w'.cell? ⟨wr.heap.size, 1, none⟩ = some (.slice la ln lc) ∧ w'.cell? ⟨wr.heap.size, 2, none⟩ = some (.int .i64 r)) := Lib.hid (fun w' h1 h2 => by
              obtain ⟨_, _, _, a3, _⟩ := blk4 h1
              obtain ⟨b0, b1, b2, _, _⟩ := blk4 h2
              exact ⟨a3, b0, b1, b2⟩)
            have hw5s := hb5.size
            have hgl5 := blk5.1
            have hfz5 := blk5.2.2
            have hx5l := X5.1
            have hne1 : some g ≠ v0.ownBlock := fun e => by have := (hown2 _ e.symm).1; omega
            have hne2 : some wr.heap.size ≠ v0.ownBlock := fun e => by have := (hown2 _ e.symm).2; omega
            clear hW5 X5 own5 blk5 d0 d1 d2 d3 y0 y1 y2 y3 yf
            have HRN : Hid (ReadR fnE (W5.alloc (.cells #[.slice pa (c10 pn) pc, .slice la (c10 ln) lc, .int .i64 r, .slice ca cn cc] 35)).drew (.slice (some ⟨W5.heap.size, 0, none⟩) 1 1) [⟨⟨pa, c10 pn, pc⟩, ⟨la, c10 ln, lc⟩, r, ⟨ca, cn, cc⟩⟩]) := readR_new (c := fnE) W5 _ ⟨⟨pa, c10 pn, pc⟩, ⟨la, c10 ln, lc⟩, r, ⟨ca, cn, cc⟩⟩
            have hLk : ((L.take k).map cutV).length ≤ 17 := by simp; omega
            have S5 := HS5.out _ (blk_drew HK5.out) (blk_drew HX.out)
            refine wp_region_E (S := (fun w' => w'.cell? ⟨g, 3, none⟩ = some v0 ∧ w'.cell? ⟨wr.heap.size, 0, none⟩ = some (.slice pa pn pc) ∧ w'.cell? ⟨wr.heap.size, 1, none⟩ = some (.slice la ln lc) ∧ w'.cell? ⟨wr.heap.size, 2, none⟩ = some (.int .i64 r))) 15 (by kernel_rfl) S5 (fun hHeld => ?_)
            clear S5
            (refine wpAnyE_take (n := 12) (i := 0) (v := ?_) rfl (by kernel_rfl) (by kernel_rfl) (by kernel_rfl) (by kernel_rfl) (by kernel_rfl) (fun _ _ _ h => h) (Or.inl ⟨by rfl, ?_⟩) hHeld ?_; rotate_left; (focus (intro w hSw; (try dsimp only at hSw); go_simp; try (with_reducible rfl))); (try simp only [Act.put, List.getElem_toArray, List.getElem_cons_succ, List.getElem_cons_zero, List.setIfInBounds_toArray, List.set_cons_zero, List.set_cons_succ]))
            (refine wpAnyE_take (n := 12) (i := 1) (v := ?_) rfl (by kernel_rfl) (by kernel_rfl) (by kernel_rfl) (by kernel_rfl) (by kernel_rfl) (fun _ _ _ h => h) (Or.inl ⟨by rfl, ?_⟩) hHeld ?_; rotate_left; (focus (intro w hSw; (try dsimp only at hSw); go_simp; try (with_reducible rfl))); (try simp only [Act.put, List.getElem_toArray, List.getElem_cons_succ, List.getElem_cons_zero, List.setIfInBounds_toArray, List.set_cons_zero, List.set_cons_succ]))
            (refine wpAnyE_take (n := 12) (i := 2) (v := ?_) rfl (by kernel_rfl) (by kernel_rfl) (by kernel_rfl) (by kernel_rfl) (by kernel_rfl) (fun _ _ _ h => h) (Or.inl ⟨by rfl, ?_⟩) hHeld ?_; rotate_left; (focus (intro w hSw; (try dsimp only at hSw); go_simp; try (with_reducible rfl))); (try simp only [Act.put, List.getElem_toArray, List.getElem_cons_succ, List.getElem_cons_zero, List.setIfInBounds_toArray, List.set_cons_zero, List.set_cons_succ]))
            (refine wpAnyE_take (n := 12) (i := 3) (v := ?_) rfl (by kernel_rfl) (by kernel_rfl) (by kernel_rfl) (by kernel_rfl) (by kernel_rfl) (fun _ _ _ h => h) (Or.inl ⟨by rfl, ?_⟩) hHeld ?_; rotate_left; (focus (intro w hSw; (try dsimp only at hSw); go_simp; try (with_reducible rfl))); (try simp only [Act.put, List.getElem_toArray, List.getElem_cons_succ, List.getElem_cons_zero, List.setIfInBounds_toArray, List.set_cons_zero, List.set_cons_succ]))
            (refine wpAnyE_take (n := 12) (i := 5) (v := ?_) rfl (by kernel_rfl) (by kernel_rfl) (by kernel_rfl) (by kernel_rfl) (by kernel_rfl) (fun _ _ _ h => h) (Or.inl ⟨by rfl, ?_⟩) hHeld ?_; rotate_left; (focus (intro w hSw; (try dsimp only at hSw); go_simp; try (with_reducible rfl))); (try simp only [Act.put, List.getElem_toArray, List.getElem_cons_succ, List.getElem_cons_zero, List.setIfInBounds_toArray, List.set_cons_zero, List.set_cons_succ]))
            (refine wpAnyE_take (n := 12) (i := 6) (v := ?_) rfl (by kernel_rfl) (by kernel_rfl) (by kernel_rfl) (by kernel_rfl) (by kernel_rfl) (fun _ _ _ h => h) (Or.inl ⟨by rfl, ?_⟩) hHeld ?_; rotate_left; (focus (intro w hSw; (try dsimp only at hSw); go_simp; try (with_reducible rfl))); (try simp only [Act.put, List.getElem_toArray, List.getElem_cons_succ, List.getElem_cons_zero, List.setIfInBounds_toArray, List.set_cons_zero, List.set_cons_succ]))
            (refine wpAnyE_take (n := 12) (i := 8) (v := ?_) rfl (by kernel_rfl) (by kernel_rfl) (by kernel_rfl) (by kernel_rfl) (by kernel_rfl) (fun _ _ _ h => h) (Or.inl ⟨by rfl, ?_⟩) hHeld ?_; rotate_left; (focus (intro w hSw; (try dsimp only at hSw); go_simp; try (with_reducible rfl))); (try simp only [Act.put, List.getElem_toArray, List.getElem_cons_succ, List.getElem_cons_zero, List.setIfInBounds_toArray, List.set_cons_zero, List.set_cons_succ]))
            (refine wpAnyE_take (n := 12) (i := 9) (v := ?_) rfl (by kernel_rfl) (by kernel_rfl) (by kernel_rfl) (by kernel_rfl) (by kernel_rfl) (fun _ _ _ h => h) (Or.inl ⟨by rfl, ?_⟩) hHeld ?_; rotate_left; (focus (intro w hSw; (try dsimp only at hSw); go_simp; try (with_reducible rfl))); (try simp only [Act.put, List.getElem_toArray, List.getElem_cons_succ, List.getElem_cons_zero, List.setIfInBounds_toArray, List.set_cons_zero, List.set_cons_succ]))
            (refine wpAnyE_take (n := 12) (i := 10) (v := ?_) rfl (by kernel_rfl) (by kernel_rfl) (by kernel_rfl) (by kernel_rfl) (by kernel_rfl) (fun _ _ _ h => h) (Or.inl ⟨by rfl, ?_⟩) hHeld ?_; rotate_left; (focus (intro w hSw; (try dsimp only at hSw); go_simp; try (with_reducible rfl))); (try simp only [Act.put, List.getElem_toArray, List.getElem_cons_succ, List.getElem_cons_zero, List.setIfInBounds_toArray, List.set_cons_zero, List.set_cons_succ]))
            refine wpAnyE_ready (rs := [4]) (by kernel_rfl) (by simp) (AllReadyE.cons rfl (fun K hK => ?_) AllReadyE.nil)
            go_simp
            refine (ints_any _ _ _ _ (by assumption) (by assumption)).mono ?_
            rintro e w' ⟨rfl, rfl⟩
            refine hK.out _ _ (hHeld) (fun hHeld => ?_)
            clear hK K
            (try simp only [Act.put, List.getElem_toArray, List.getElem_cons_succ, List.getElem_cons_zero, List.setIfInBounds_toArray, List.set_cons_zero, List.set_cons_succ])
            refine wpAnyE_ready (rs := [7]) (by kernel_rfl) (by simp) (AllReadyE.cons rfl (fun K hK => ?_) AllReadyE.nil)
            go_simp
            refine (ints_any _ _ _ _ (by assumption) (by assumption)).mono ?_
            rintro e w' ⟨rfl, rfl⟩
            refine hK.out _ _ (hHeld) (fun hHeld => ?_)
            clear hK K
            (try simp only [Act.put, List.getElem_toArray, List.getElem_cons_succ, List.getElem_cons_zero, List.setIfInBounds_toArray, List.set_cons_zero, List.set_cons_succ])
            (refine wpAnyE_take (n := 12) (i := 11) (v := ?_) rfl (by kernel_rfl) (by kernel_rfl) (by kernel_rfl) (by kernel_rfl) (by kernel_rfl) (fun _ _ _ h => h) (Or.inl ⟨by rfl, ?_⟩) hHeld ?_; rotate_left; (focus (intro w hSw; (try dsimp only at hSw); go_simp; try (with_reducible rfl))); (try simp only [Act.put, List.getElem_toArray, List.getElem_cons_succ, List.getElem_cons_zero, List.setIfInBounds_toArray, List.set_cons_zero, List.set_cons_succ]))
            refine wpAnyE_ready (rs := [12]) (by kernel_rfl) (by simp) (AllReadyE.cons rfl (fun K hK => ?_) AllReadyE.nil)
            go_simp
            refine hK.out _ _ (HS5.out _ (blk_drew (blk_alloc HK5.out _)) (blk_drew (blk_alloc HX.out _))) (fun hHeld => ?_)
            clear hK K
            (try simp only [Act.put, List.getElem_toArray, List.getElem_cons_succ, List.getElem_cons_zero, List.setIfInBounds_toArray, List.set_cons_zero, List.set_cons_succ])
            refine wpAnyE_ready (rs := [13]) (by kernel_rfl) (by simp) (AllReadyE.cons rfl (fun K hK => ?_) AllReadyE.nil)
            refine step_appendR rowFn (by rfl) _ _ (by rfl) (g + 1) v0 ((L.take k).map cutV) (by rfl) (ownR_drew (ownR_alloc HO5.out _)) _ [⟨⟨pa, c10 pn, pc⟩, ⟨la, c10 ln, lc⟩, r, ⟨ca, cn, cc⟩⟩] (by rfl) HRN.out (by rw [List.length_singleton]; omega) (by rw [List.length_singleton]; unfold maxLen; omega) (by rw [World.size_drew, World.size_alloc]; omega) ?_
            intro v9 w9 own9 hg9
            obtain ⟨L9, hL9⟩ : ∃ L9, L9 = (L.take k).map cutV ++ [⟨⟨pa, c10 pn, pc⟩, ⟨la, c10 ln, lc⟩, r, ⟨ca, cn, cc⟩⟩] := ⟨_, rfl⟩
            rw [← hL9] at own9
            obtain ⟨g9, cap9, rfl, gg9, _⟩ := ownR_form own9 (by rw [hL9]; simp)
            have HL9 : Hid ((L.take (k + 1)).map cutV = L9) := by
              show _ = _
              rw [HSN.out, hL9]
              have e : cutV ⟨⟨pa, pn, pc⟩, ⟨la, ln, lc⟩, r, ⟨ca, cn, cc⟩⟩ = ⟨⟨pa, c10 pn, pc⟩, ⟨la, c10 ln, lc⟩, r, ⟨ca, cn, cc⟩⟩ := by unfold cutV; simp only [HQ.out]
              rw [e]
            have K9 := blk_grown (blk_drew (blk_alloc HK5.out _)) hg9 hne1
            have X9 := blk_grown (blk_drew (blk_alloc HX.out _)) hg9 hne2
            have B9 : Below W.heap.size W w9 := b_gr0 (b_drew (b_alloc (b_call HBW.out hb5) _)) hg9 (fun j hj => by have := (hown2 j hj).1; omega)
            clear hL9
            refine hK.out _ _ (HS5.out _ K9 X9) (fun hHeld => ?_)
            clear hK K
            (try simp only [Act.put, List.getElem_toArray, List.getElem_cons_succ, List.getElem_cons_zero, List.setIfInBounds_toArray, List.set_cons_zero, List.set_cons_succ])
            (refine wpAnyE_take (n := 12) (i := 14) (v := ?_) rfl (by kernel_rfl) (by kernel_rfl) (by kernel_rfl) (by kernel_rfl) (by kernel_rfl) (fun _ _ _ h => h) (Or.inl ⟨by rfl, ?_⟩) hHeld ?_; rotate_left; (focus (intro w hSw; (try dsimp only at hSw); go_simp; try (with_reducible rfl))); (try simp only [Act.put, List.getElem_toArray, List.getElem_cons_succ, List.getElem_cons_zero, List.setIfInBounds_toArray, List.set_cons_zero, List.set_cons_succ]))
            obtain ⟨z0, z1, z2, z3, zf⟩ := blk4 K9
            have ST : CutSt W (w9.setCell ⟨g, 3, none⟩ (.slice (some ⟨g9, 0, none⟩) L9.length cap9)) g u (.slice ga (c10 gn) gc) m ((L.take (k + 1)).map cutV) := by
              rw [HL9.out]
              exact ⟨_, ownR_kept own9 (gb_set (gb_refl w9 (some g)) 3 none _) (Or.inr (by intro e; have e2 : some g9 = some g := e; injection e2; omega)), blk_set K9 3 _, b_set B9 hgW _⟩
            have HSTT := Lib.hid ST
            clear ST own9 hg9 K9 X9 B9 z0 z1 z2 hHeld
            refine wpAnyE_ready (rs := [15]) (by kernel_rfl) (by simp) (AllReadyE.last rfl (fun K hK => ?_))
            go_simp
            refine hK.out _ _ (trivial) (fun hHeld => ?_)
            clear hK K
            (try simp only [Act.put, List.getElem_toArray, List.getElem_cons_succ, List.getElem_cons_zero, List.setIfInBounds_toArray, List.set_cons_zero, List.set_cons_succ])
            refine wpAnyE_done (by kernel_rfl) ?_
            go_wp2_with fail
            exact ⟨⟨k + 1, by omega, by omega, by go_num, HSTT⟩, by simp only [intOf]; omega⟩
        · obtain rfl : k = 17 := by omega
          have B5 := b_alloc HBW.out (.cells #[.slice pa pn pc, .slice la ln lc, .int .i64 r, .slice ca cn cc] 35)
          have R5 := blk4 (blk_below HBR.out B5)
          have R5l := (blk_below HBR.out B5).1
          have RB := Lib.hid (blk_below HBR.out B5)
          have BWW := Lib.hid (b_call hBW B5)
          have K5 := blk_alloc HBLK.out (.cells #[.slice pa pn pc, .slice la ln lc, .int .i64 r, .slice ca cn cc] 35)
          have OWNZ := ownR_alloc HOWN.out (.cells #[.slice pa pn pc, .slice la ln lc, .int .i64 r, .slice ca cn cc] 35)
          obtain ⟨va, vc, ev, _⟩ := readR_len (ownR_read OWNZ)
          obtain ⟨n0, hn0⟩ : ∃ n0, n0 = ((L.take 17).map cutV).length := ⟨_, rfl⟩
          rw [← hn0] at ev
          subst ev
          clear hn0
          obtain ⟨e0, e1, e2, e3, ef⟩ := R5
          obtain ⟨f0, f1, f2, f3, ff⟩ := blk4 K5
          have HOZ := Lib.hid OWNZ
          have hOl := ownR_lt OWNZ
          have hblt := R5l
          clear OWNZ
          go_wp2_with fail
          refine post_named ?_
          intro wF hwF
          have BF : Blk wF (w.heap.size + 1) [.bool u, .slice ga (c10 gn) gc, .int .i64 m, .slice va n0 vc] := by rw [hwF]; exact blk_set (blk_set (blk_set (blk_set RB.out 0 _) 1 _) 2 _) 3 _
          have GF := gb_set (gb_set (gb_set (gb_set (gb_refl (wr.alloc (.cells #[.slice pa pn pc, .slice la ln lc, .int .i64 r, .slice ca cn cc] 35)) (some (w.heap.size + 1))) 0 none (.bool u)) 1 none (.slice ga (c10 gn) gc)) 2 none (.int .i64 m)) 3 none (.slice va n0 vc)
          rw [← hwF] at GF
          have FB : Below w.heap.size w wF := b_grown BWW.out GF (by omega)
          have OF := ownR_kept HOZ.out GF (by
            cases hv : (Value.slice va n0 vc).ownBlock with
            | none => exact Or.inl rfl
            | some j => exact Or.inr (by intro e; injection e with e; have := (hOl j hv).1; omega))
          clear hwF GF
          obtain ⟨c0, c1, c2, c3, _⟩ := blk4 BF
          exact bodyPost_ret (v := aggP ⟨u, ⟨ga, c10 gn, gc⟩, m, ⟨va, n0, vc⟩⟩) (by simp [results, Try.results15, go_sem, c0, c1, c2, c3]; rfl) rfl ⟨_, rfl, cutM_end HU.out HG0.out HM.out HA0.out (Or.inl rfl) (ownR_mono OF (by omega)), FB⟩
      · obtain rfl : k = L.length := by omega
        have R5 := blk4 (blk_below HBR.out hbw)
        have R5l := (blk_below HBR.out hbw).1
        have RB := Lib.hid (blk_below HBR.out hbw)
        have BWW := Lib.hid (b_call hBW hbw)
        have K5 := hblk
        have OWNZ := hown
        have HBW := Lib.hid hbw
        clear hbw hp
        obtain ⟨va, vc, ev, _⟩ := readR_len (ownR_read OWNZ)
        obtain ⟨n0, hn0⟩ : ∃ n0, n0 = ((L.take L.length).map cutV).length := ⟨_, rfl⟩
        rw [← hn0] at ev
        subst ev
        clear hn0
        obtain ⟨e0, e1, e2, e3, ef⟩ := R5
        obtain ⟨f0, f1, f2, f3, ff⟩ := blk4 K5
        have HOZ := Lib.hid OWNZ
        have hOl := ownR_lt OWNZ
        have hblt := R5l
        clear OWNZ
        go_wp2_with fail
        refine post_named ?_
        intro wF hwF
        have BF : Blk wF (w.heap.size + 1) [.bool u, .slice ga (c10 gn) gc, .int .i64 m, .slice va n0 vc] := by rw [hwF]; exact blk_set (blk_set (blk_set (blk_set RB.out 0 _) 1 _) 2 _) 3 _
        have GF := gb_set (gb_set (gb_set (gb_set (gb_refl wr (some (w.heap.size + 1))) 0 none (.bool u)) 1 none (.slice ga (c10 gn) gc)) 2 none (.int .i64 m)) 3 none (.slice va n0 vc)
        rw [← hwF] at GF
        have FB : Below w.heap.size w wF := b_grown BWW.out GF (by omega)
        have OF := ownR_kept HOZ.out GF (by
          cases hv : (Value.slice va n0 vc).ownBlock with
          | none => exact Or.inl rfl
          | some j => exact Or.inr (by intro e; injection e with e; have := (hOl j hv).1; omega))
        clear hwF GF
        obtain ⟨c0, c1, c2, c3, _⟩ := blk4 BF
        exact bodyPost_ret (v := aggP ⟨u, ⟨ga, c10 gn, gc⟩, m, ⟨va, n0, vc⟩⟩) (by simp [results, Try.results15, go_sem, c0, c1, c2, c3]; rfl) rfl ⟨_, rfl, cutM_end HU.out HG0.out HM.out HA0.out (Or.inr ⟨rfl, hk17⟩) (ownR_mono OF (by omega)), FB⟩
end Go.Proofs.Ytdmidnmciaediaa
