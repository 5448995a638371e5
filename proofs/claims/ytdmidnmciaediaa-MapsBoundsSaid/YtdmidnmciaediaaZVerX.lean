/- Layer 25: the program's own May. Conditions: what is asked reads as lists. Layer 25: the program's own May. Conditions: what is asked reads as lists. Layer 25: the program's own May. Conditions: what is asked reads as lists. Layer 24: instructions as bytes, and back: ours and the document's. Conditions: those stated. Layer 24: the words of instructions, as instr.Name finds them. No conditions. Chapter 24's example. No conditions. Layer 24: an instruction read: ours and the document's. Conditions: the slice reads as bytes, of fewer than 2^38. Layer 24: an instruction read by the document's own Read. Conditions: the slice reads as bytes, of fewer than 2^38. Layer 24, plain: the bytes of an instruction that may be are read as it was, whatever stands behind them. No conditions beside those stated. Layer 25: a program's bytes, as lists; rows of bytes kept apart from all else. No conditions beside those stated. Layer 25's Cut, and of what it is made. Conditions: the program reads as lists. -/
import Derived.Test.YtdmidnmciaediaaZEq25
import Derived.Test.YtdmidnmciaediaaZBytes
import Derived.Laws.OwnMore
import Derived.Laws.IdiomStrings
import Derived.Test.YtdmidnmciaediaaZBase
import Derived.Test.YtdmidnmciaediaaZCut
namespace Go.Proofs.Ytdmidnmciaediaa
open Go.RowKit
set_option linter.unusedVariables false
set_option linter.unusedSimpArgs false
attribute [local go_sem] over_cell over_frozen
theorem right1_any (x : Int) (w : World) : Calls Try.prog 119 #[.int .i64 x] w fun e w' => e = .returned (.bool (!kindB x)) ∧ w = w' := by
  by_cases h1 : x < 0
  · have e : kindB x = false := by unfold kindB; rw [decide_eq_false (by omega)]; rfl
    rw [e]; clear e
    go_enter Try.func119, Try.ntmps119
    go_wp2_with fail
    go_ret
    exact ⟨rfl, rfl⟩
  · by_cases h2 : 4 ≤ x
    · have e : kindB x = false := by unfold kindB; rw [decide_eq_false (show ¬ x ≤ 3 by omega)]; simp
      rw [e]; clear e
      go_enter Try.func119, Try.ntmps119
      go_wp2_with fail
      go_ret
      exact ⟨rfl, rfl⟩
    · have e : kindB x = true := by unfold kindB; rw [decide_eq_true (show x ≤ 3 by omega), decide_eq_true (show 0 ≤ x by omega)]; rfl
      rw [e]; clear e
      go_enter Try.func119, Try.ntmps119
      go_wp2_with fail
      go_ret
      exact ⟨rfl, rfl⟩
/-- A place at which something does not hold, or -1. -/
def IdxEnd (b : Bool) (W : World) (e : Ending) (w' : World) : Prop := ∃ i : Int, e = .returned (.int .i64 i) ∧ ((b = true ∧ i = -1) ∨ (b = false ∧ 0 ≤ i)) ∧ Below W.heap.size W w'
def IdxEnd0 (b : Bool) (W : World) (e : Ending) (w' : World) : Prop := ∃ i : Int, e = .returned (.int .i64 i) ∧ ((b = true ∧ i = -1) ∨ (b = false ∧ 0 ≤ i)) ∧ W = w'
set_option maxHeartbeats 800000 in
theorem idxI_any (u : Value) (xs : List Int) (w : World) (h : ReadI w u xs) : Calls Try.prog 134 #[u, .func (.func 119) #[] #[]] w (IdxEnd0 (xs.all kindB) w) := by
  obtain ⟨a, cap, rfl⟩ := readI_len h
  have hl : (xs.length : Int) ≤ 9223372036854775807 := by
    obtain ⟨_, _, e, h1, h2, _⟩ := h; have := cap_le h2; omega
  have H := Lib.hid h
  clear h
  go_enter Try.func134, Try.ntmps134
  go_wp2_with fail
  go_loopw [8] (fun i wr => ∃ k : Nat, k ≤ xs.length ∧ i = .int .i64 k ∧ wr = w ∧ Hid ((xs.take k).all kindB = true)) (fun i _ => xs.length - (intOf i).toNat)
  case atStart => exact ⟨0, Nat.zero_le _, rfl, rfl, rfl⟩
  case round =>
    obtain ⟨k, hk, rfl, rfl, hp⟩ := hrel
    have k0 : (0 : Int) ≤ k := by omega
    by_cases hlt : k < xs.length
    · obtain ⟨bl, off, cp, e1, r1, r2, hbl, r4⟩ := readI_pos H.out (by omega)
      cases e1
      have k1 : (k : Int) < xs.length := by omega
      have hc := r4 k hlt
      have HF : Hid (kindB xs[k] = false → xs.all kindB = false) := fun q => all_false hlt q
      have HT : Hid (kindB xs[k] = true → (xs.take (k + 1)).all kindB = true) := fun q => all_take hlt hp.out q
      rw [List.getD_eq_getElem?_getD, List.getElem?_eq_getElem hlt, Option.getD_some] at hc
      generalize xs[k] = x at *
      clear r4
      go_wp2_with fail
      refine (right1_any x _).mono ?_
      rintro e w' ⟨rfl, rfl⟩
      obtain ⟨t, ht⟩ : ∃ t, t = kindB x := ⟨_, rfl⟩
      rw [← ht]
      have HK := Lib.hid ht
      clear ht
      cases t
      · go_wp2_with fail
        go_ret
        exact ⟨_, rfl, Or.inr ⟨HF.out HK.out.symm, k0⟩, rfl⟩
      · go_wp2_with fail
        go_roundw
        case rel => exact ⟨k + 1, by omega, by first | rfl | trivial | go_num, by first | trivial | rfl, HT.out HK.out.symm⟩
        case measure => simp [intOf]; omega
    · have hall : xs.all kindB = true := by have q := hp.out; rw [List.take_of_length_le (by omega)] at q; exact q
      have HALL := Lib.hid hall
      clear hall hp
      go_wp2_with fail
      go_ret
      exact ⟨_, rfl, Or.inl ⟨HALL.out, rfl⟩, rfl⟩
theorem contI_any (u : Value) (xs : List Int) (w : World) (h : ReadI w u xs) : Calls Try.prog 118 #[u, .func (.func 119) #[] #[]] w fun e w' => e = .returned (.bool (!(xs.all kindB))) ∧ w = w' := by
  obtain ⟨t, ht⟩ : ∃ t, t = xs.all kindB := ⟨_, rfl⟩
  rw [← ht]
  have HT := Lib.hid ht
  clear ht
  go_enter Try.func118, Try.ntmps118
  go_wp2_with fail
  refine (idxI_any _ xs _ h).mono ?_
  rintro e w' ⟨i, rfl, hi, rfl⟩
  rw [← HT.out] at hi
  cases t
  · have hi : 0 ≤ i := by simpa using hi
    go_wp2_with fail
    go_ret
    exact ⟨rfl, rfl⟩
  · have hi : i = -1 := by simpa using hi
    subst hi
    go_wp2_with fail
    go_ret
    exact ⟨rfl, rfl⟩
theorem right_any (u : Value) (xs : List Int) (w : World) (h : ReadI w u xs) : Calls Try.prog 94 #[u] w fun e w' => e = .returned (.bool (xs.all kindB)) ∧ w = w' := by
  obtain ⟨t, ht⟩ : ∃ t, t = xs.all kindB := ⟨_, rfl⟩
  rw [← ht]
  have HT := Lib.hid ht
  clear ht
  go_enter Try.func94, Try.ntmps94
  go_wp2_with fail
  refine (contI_any _ xs _ h).mono ?_
  rintro e w' ⟨rfl, rfl⟩
  rw [← HT.out]
  cases t
  · go_wp2_with fail
    go_ret
    exact ⟨rfl, rfl⟩
  · go_wp2_with fail
    go_ret
    exact ⟨rfl, rfl⟩
def mayI (i : In4) : Bool := mayB i.op i.x i.a i.b
theorem codeB_all (c : List In4) : codeB c = c.all mayI := rfl
theorem fmay1_any (op x a b : Int) (w : World) : Calls Try.prog 122 #[.agg #[.int .i64 op, .int .u64 x, .int .i64 a, .int .i64 b]] w fun e w' => e = .returned (.bool (!mayI ⟨op, x, a, b⟩)) ∧ Below w.heap.size w w' := by
  unfold mayI
  obtain ⟨t, ht⟩ : ∃ t, t = mayB op x a b := ⟨_, rfl⟩
  simp only
  rw [← ht]
  have HT := Lib.hid ht
  clear ht
  go_enter Try.func122, Try.ntmps122
  go_wp2_with fail
  refine (may_any op x a b _).mono ?_
  rintro e w' ⟨rfl, hb⟩
  rw [← HT.out]
  have HB := Lib.hid (b_call (b_alloc (Below.refl _ _) _) hb)
  clear hb
  cases t
  · go_wp2_with fail
    go_ret
    exact ⟨rfl, HB.out⟩
  · go_wp2_with fail
    go_ret
    exact ⟨rfl, HB.out⟩
set_option maxHeartbeats 800000 in
theorem idxN_any (u : Value) (xs : List In4) (w : World) (h : ReadR inE w u xs) : Calls Try.prog 135 #[u, .func (.func 122) #[] #[]] w (IdxEnd (xs.all mayI) w) := by
  obtain ⟨a, cap, rfl, _⟩ := readR_len h
  have hl : (xs.length : Int) ≤ 9223372036854775807 := by
    obtain ⟨_, _, e, h1, h2, _⟩ := h; have := cap_le h2; omega
  have H := Lib.hid h
  clear h
  go_enter Try.func135, Try.ntmps135
  go_wp2_with fail
  go_loopw [8] (fun i wr => ∃ k : Nat, k ≤ xs.length ∧ i = .int .i64 k ∧ Hid (Below w.heap.size w wr) ∧ Hid ((xs.take k).all mayI = true)) (fun i _ => xs.length - (intOf i).toNat)
  case atStart => exact ⟨0, Nat.zero_le _, rfl, Below.refl _ _, rfl⟩
  case round =>
    obtain ⟨k, hk, rfl, hb, hp⟩ := hrel
    have k0 : (0 : Int) ≤ k := by omega
    by_cases hlt : k < xs.length
    · obtain ⟨bl, off, cp, e1, r1, r2, hbl, r4⟩ := readR_pos H.out (by omega)
      cases e1
      have k1 : (k : Int) < xs.length := by omega
      have hc := in_cells r4 k hlt
      rw [← (bcell hb.out).1 _ _ hbl, ← (bcell hb.out).1 _ _ hbl, ← (bcell hb.out).1 _ _ hbl, ← (bcell hb.out).1 _ _ hbl] at hc
      have HF : Hid (mayI xs[k] = false → xs.all mayI = false) := fun q => all_false hlt q
      have HT : Hid (mayI xs[k] = true → (xs.take (k + 1)).all mayI = true) := fun q => all_take hlt hp.out q
      generalize xs[k] = x at *
      obtain ⟨iop, ix, ia, ib⟩ := x
      simp only at hc
      obtain ⟨c0, c1, c2, c3⟩ := hc
      clear r4
      go_wp2_with fail
      refine (fmay1_any iop ix ia ib _).mono ?_
      rintro e w' ⟨rfl, hb1⟩
      obtain ⟨t, ht⟩ : ∃ t, t = mayI ⟨iop, ix, ia, ib⟩ := ⟨_, rfl⟩
      rw [← ht]
      have HK := Lib.hid ht
      have HB1 := Lib.hid (b_call hb.out hb1)
      clear ht hb1
      cases t
      · go_wp2_with fail
        go_ret
        exact ⟨_, rfl, Or.inr ⟨HF.out HK.out.symm, k0⟩, HB1.out⟩
      · go_wp2_with fail
        go_roundw
        case rel => exact ⟨k + 1, by omega, by first | rfl | trivial | go_num, HB1.out, HT.out HK.out.symm⟩
        case measure => simp [intOf]; omega
    · have hall : xs.all mayI = true := by have q := hp.out; rw [List.take_of_length_le (by omega)] at q; exact q
      have HALL := Lib.hid hall
      clear hall hp
      go_wp2_with fail
      go_ret
      exact ⟨_, rfl, Or.inl ⟨HALL.out, rfl⟩, hb.out⟩
theorem contN_any (u : Value) (xs : List In4) (w : World) (h : ReadR inE w u xs) : Calls Try.prog 121 #[u, .func (.func 122) #[] #[]] w fun e w' => e = .returned (.bool (!(xs.all mayI))) ∧ Below w.heap.size w w' := by
  obtain ⟨t, ht⟩ : ∃ t, t = xs.all mayI := ⟨_, rfl⟩
  rw [← ht]
  have HT := Lib.hid ht
  clear ht
  go_enter Try.func121, Try.ntmps121
  go_wp2_with fail
  refine (idxN_any _ xs _ h).mono ?_
  rintro e w' ⟨i, rfl, hi, hb⟩
  rw [← HT.out] at hi
  cases t
  · have hi : 0 ≤ i := by simpa using hi
    go_wp2_with fail
    go_ret
    exact ⟨rfl, hb⟩
  · have hi : i = -1 := by simpa using hi
    subst hi
    go_wp2_with fail
    go_ret
    exact ⟨rfl, hb⟩
theorem readI_sole (W : World) (T : TypeId) (r : Int) : ReadI (W.alloc (.cells #[.int .i64 r] T)) (.slice (some ⟨W.heap.size, 0, none⟩) 1 1) [r] := readR_I (readR_new (c := intE) W T r)
theorem readI_sole2 {W : World} {T : TypeId} {r : Int} {k : Nat} (hk : k = W.heap.size) : ReadI (W.alloc (.cells #[.int .i64 r] T)) (.slice (some ⟨k, 0, none⟩) 1 1) [r] := by rw [hk]; exact readI_sole W T r
set_option maxRecDepth 100000 in
set_option maxHeartbeats 1000000 in
theorem fmay_any (v : FnV) (f : FnM) (w : World) (h : DeepF w v f) : Calls Try.prog 97 #[.agg #[v.p.v, v.l.v, .int .i64 v.r, v.c.v]] w fun e w' => e = .returned (.bool (mayF f)) ∧ Below w.heap.size w w' := by
  obtain ⟨⟨pa, pn, pc⟩, ⟨la, ln, lc⟩, r, ⟨ca, cn, cc⟩⟩ := v
  obtain ⟨ps, ls, r', code⟩ := f
  obtain ⟨dp, dl, dr, dc⟩ := h
  simp only at dr
  subst dr
  obtain ⟨hp1, hp2, hp3⟩ := sli_cap (show ReadI w (.slice pa pn pc) ps from dp)
  subst hp3
  obtain ⟨hl1, hl2, hl3⟩ := sli_cap (show ReadI w (.slice la ln lc) ls from dl)
  subst hl3
  obtain ⟨hc1, hc2, hc3⟩ := slr_cap (show ReadR inE w (.slice ca cn cc) code from dc)
  subst hc3
  have hpm := cap_le hp2
  have hlm := cap_le hl2
  have hcm := cap_le hc2
  have HDP := Lib.hid (show ReadI w (.slice pa ps.length pc) ps from dp)
  have HDL := Lib.hid (show ReadI w (.slice la ls.length lc) ls from dl)
  have HDC := Lib.hid (show ReadR inE w (.slice ca code.length cc) code from dc)
  have HM2 : Hid (mayF ⟨ps, ls, r, code⟩ = (kindsB ps 8 && (kindsB ls (8 - ps.length) && (decide (0 ≤ r) && (decide (r ≤ 3) && (decide (1 ≤ code.length) && (decide (code.length ≤ 96) && codeB code))))))) := rfl
  clear dp dl dc hp2 hl2 hc2
  obtain ⟨t, ht⟩ : ∃ t, t = mayF ⟨ps, ls, r, code⟩ := ⟨_, rfl⟩
  rw [← ht]
  have HT := Lib.hid ht
  clear ht
  unfold Sl.v
  simp only
  by_cases c1 : 8 < ps.length
  · have c1' : (8 : Int) < ps.length := by omega
    obtain rfl : t = false := by rw [HT.out, HM2.out]; unfold kindsB; rw [decide_eq_false (show ¬ (ps.length : Int) ≤ 8 by omega)]; simp
    go_enter Try.func97, Try.ntmps97
    go_wp2_with fail
    go_quiet (fail)
    go_wp2_with fail
    go_ret
    exact ⟨rfl, b_drewN (b_alloc (Below.refl _ _) _) _⟩
  have c1' : (ps.length : Int) ≤ 8 := by omega
  have c1'' : ¬ (8 : Int) < ps.length := by omega
  by_cases c2 : (8 : Int) - ps.length < ls.length
  · obtain rfl : t = false := by rw [HT.out, HM2.out]; unfold kindsB; rw [decide_eq_false (show ¬ (ls.length : Int) ≤ 8 - ps.length by omega)]; simp
    go_enter Try.func97, Try.ntmps97
    go_wp2_with fail
    go_quiet (fail)
    go_wp2_with fail
    go_ret
    exact ⟨rfl, b_drewN (b_alloc (Below.refl _ _) _) _⟩
  by_cases c3 : code.length < 1
  · have c3' : (code.length : Int) < 1 := by omega
    obtain rfl : t = false := by rw [HT.out, HM2.out, decide_eq_false (show ¬ 1 ≤ code.length by omega)]; simp
    go_enter Try.func97, Try.ntmps97
    go_wp2_with fail
    go_quiet (fail)
    go_wp2_with fail
    go_ret
    exact ⟨rfl, b_drewN (b_alloc (Below.refl _ _) _) _⟩
  have c3' : ¬ (code.length : Int) < 1 := by omega
  by_cases c4 : 96 < code.length
  · have c4' : (96 : Int) < code.length := by omega
    obtain rfl : t = false := by rw [HT.out, HM2.out, decide_eq_false (show ¬ code.length ≤ 96 by omega)]; simp
    go_enter Try.func97, Try.ntmps97
    go_wp2_with fail
    go_quiet (fail)
    go_wp2_with fail
    go_ret
    exact ⟨rfl, b_drewN (b_alloc (Below.refl _ _) _) _⟩
  have c4' : ¬ (96 : Int) < code.length := by omega
  have HM3 : Hid (t = (ps.all kindB && (ls.all kindB && (kindB r && code.all mayI)))) := by
    show _ = _
    rw [HT.out, HM2.out, decide_eq_true (show 1 ≤ code.length by omega), decide_eq_true (show code.length ≤ 96 by omega), codeB_all]
    unfold kindsB
    rw [decide_eq_true c1', decide_eq_true (show (ls.length : Int) ≤ 8 - ps.length by omega)]
    unfold kindB
    simp [Bool.and_assoc]
  clear HT HM2
  go_enter Try.func97, Try.ntmps97
  go_wp2_with fail
  go_quiet (fail)
  go_wp2_with fail
  refine (right_any _ ps _ (readI_below HDP.out (b_drewN (b_alloc (Below.refl _ _) _) _))).mono ?_
  rintro e w' ⟨rfl, rfl⟩
  obtain ⟨t1, ht1⟩ : ∃ t, t = ps.all kindB := ⟨_, rfl⟩
  rw [← ht1]
  have HT1 := Lib.hid ht1
  clear ht1
  cases t1
  · obtain rfl : t = false := by rw [HM3.out, ← HT1.out]; rfl
    go_wp2_with fail
    go_ret
    exact ⟨rfl, b_drewN (b_alloc (Below.refl _ _) _) _⟩
  go_wp2_with fail
  refine (right_any _ ls _ (readI_below HDL.out (b_drewN (b_alloc (Below.refl _ _) _) _))).mono ?_
  rintro e w' ⟨rfl, rfl⟩
  obtain ⟨t2, ht2⟩ : ∃ t, t = ls.all kindB := ⟨_, rfl⟩
  rw [← ht2]
  have HT2 := Lib.hid ht2
  clear ht2
  cases t2
  · obtain rfl : t = false := by rw [HM3.out, ← HT1.out, ← HT2.out]; rfl
    go_wp2_with fail
    go_ret
    exact ⟨rfl, b_drewN (b_alloc (Below.refl _ _) _) _⟩
  go_wp2_with fail
  refine (right_any _ [r] _ ?hsole).mono ?_
  case hsole => exact readI_sole2 (by simp)
  rintro e w' ⟨rfl, rfl⟩
  obtain ⟨t3, ht3⟩ : ∃ t, t = [r].all kindB := ⟨_, rfl⟩
  rw [← ht3]
  have HT3 : Hid (t3 = kindB r) := by show _ = _; rw [ht3]; simp
  clear ht3
  cases t3
  · obtain rfl : t = false := by rw [HM3.out, ← HT1.out, ← HT2.out, ← HT3.out]; rfl
    go_wp2_with fail
    go_ret
    exact ⟨rfl, b_alloc (b_drewN (b_alloc (Below.refl _ _) _) _) _⟩
  go_wp2_with fail
  refine (contN_any _ code _ (readR_below HDC.out (b_alloc (b_drewN (b_alloc (Below.refl _ _) _) _) _))).mono ?_
  rintro e w1 ⟨rfl, hb1⟩
  obtain ⟨t4, ht4⟩ : ∃ t, t = code.all mayI := ⟨_, rfl⟩
  rw [← ht4]
  have HT4 := Lib.hid ht4
  have HB1 := Lib.hid (b_call (b_alloc (b_drewN (b_alloc (Below.refl _ _) _) _) _) hb1)
  clear ht4 hb1
  cases t4
  · obtain rfl : t = false := by rw [HM3.out, ← HT1.out, ← HT2.out, ← HT3.out, ← HT4.out]; rfl
    go_wp2_with fail
    go_ret
    exact ⟨rfl, HB1.out⟩
  · obtain rfl : t = true := by rw [HM3.out, ← HT1.out, ← HT2.out, ← HT3.out, ← HT4.out]; rfl
    go_wp2_with fail
    go_ret
    exact ⟨rfl, HB1.out⟩
theorem pmay1_any (v : FnV) (f : FnM) (w : World) (h : DeepF w v f) : Calls Try.prog 96 #[.agg #[v.p.v, v.l.v, .int .i64 v.r, v.c.v]] w fun e w' => e = .returned (.bool (!mayF f)) ∧ Below w.heap.size w w' := by
  obtain ⟨t, ht⟩ : ∃ t, t = mayF f := ⟨_, rfl⟩
  rw [← ht]
  have HT := Lib.hid ht
  have H := Lib.hid h
  clear ht h
  go_enter Try.func96, Try.ntmps96
  go_wp2_with fail
  refine (fmay_any v f _ (deepF_below H.out (b_alloc (Below.refl _ _) _))).mono ?_
  rintro e w' ⟨rfl, hb⟩
  rw [← HT.out]
  have HB := Lib.hid (b_call (b_alloc (Below.refl _ _) _) hb)
  clear hb
  cases t
  · go_wp2_with fail
    go_ret
    exact ⟨rfl, HB.out⟩
  · go_wp2_with fail
    go_ret
    exact ⟨rfl, HB.out⟩
set_option maxHeartbeats 800000 in
theorem idxF_any (u : Value) (fs : List FnM) (w : World) (h : ReadFs w u fs) : Calls Try.prog 120 #[u, .func (.func 96) #[] #[]] w (IdxEnd (fs.all mayF) w) := by
  obtain ⟨L, hL, hA⟩ := h
  obtain ⟨a, cap, rfl, _⟩ := readR_len hL
  have hl : (L.length : Int) ≤ 9223372036854775807 := by
    obtain ⟨_, _, e, h1, h2, _⟩ := hL; have := cap_le h2; omega
  have HL := Lib.hid hL
  have HA := Lib.hid hA
  have HFL := Lib.hid (allF_len hA)
  clear hL hA
  go_enter Try.func120, Try.ntmps120
  go_wp2_with fail
  go_loopw [8] (fun i wr => ∃ k : Nat, k ≤ L.length ∧ i = .int .i64 k ∧ Hid (Below w.heap.size w wr) ∧ Hid ((fs.take k).all mayF = true)) (fun i _ => L.length - (intOf i).toNat)
  case atStart => exact ⟨0, Nat.zero_le _, rfl, Below.refl _ _, rfl⟩
  case round =>
    obtain ⟨k, hk, rfl, hb, hp⟩ := hrel
    have k0 : (0 : Int) ≤ k := by omega
    by_cases hlt : k < L.length
    · obtain ⟨bl, off, cp, e1, r1, r2, hbl, r4⟩ := readR_pos HL.out (by omega)
      cases e1
      have k1 : (k : Int) < L.length := by omega
      have hc := fn_cells r4 k hlt
      rw [← (bcell hb.out).1 _ _ hbl, ← (bcell hb.out).1 _ _ hbl, ← (bcell hb.out).1 _ _ hbl, ← (bcell hb.out).1 _ _ hbl] at hc
      have kf : k < fs.length := by rw [← HFL.out]; exact hlt
      have DF := Lib.hid (allF_at HA.out k hlt kf)
      have HF : Hid (mayF fs[k] = false → fs.all mayF = false) := fun q => all_false kf q
      have HT : Hid (mayF fs[k] = true → (fs.take (k + 1)).all mayF = true) := fun q => all_take kf hp.out q
      generalize fs[k] = f at *
      generalize L[k] = x at *
      obtain ⟨⟨pa, pn, pc⟩, ⟨la, ln, lc⟩, r, ⟨ca, cn, cc⟩⟩ := x
      simp only at hc
      obtain ⟨c0, c1, c2, c3⟩ := hc
      clear r4
      go_wp2_with fail
      refine (pmay1_any ⟨⟨pa, pn, pc⟩, ⟨la, ln, lc⟩, r, ⟨ca, cn, cc⟩⟩ f _ (deepF_below DF.out hb.out)).mono ?_
      rintro e w' ⟨rfl, hb1⟩
      obtain ⟨t, ht⟩ : ∃ t, t = mayF f := ⟨_, rfl⟩
      rw [← ht]
      have HK := Lib.hid ht
      have HB1 := Lib.hid (b_call hb.out hb1)
      clear ht hb1
      cases t
      · go_wp2_with fail
        go_ret
        exact ⟨_, rfl, Or.inr ⟨HF.out HK.out.symm, k0⟩, HB1.out⟩
      · go_wp2_with fail
        go_roundw
        case rel => exact ⟨k + 1, by omega, by first | rfl | trivial | go_num, HB1.out, HT.out HK.out.symm⟩
        case measure => simp [intOf]; omega
    · have hall : fs.all mayF = true := by have q := hp.out; have := HFL.out; rw [List.take_of_length_le (by omega)] at q; exact q
      have HALL := Lib.hid hall
      clear hall hp
      go_wp2_with fail
      go_ret
      exact ⟨_, rfl, Or.inl ⟨HALL.out, rfl⟩, hb.out⟩
theorem contF_any (u : Value) (fs : List FnM) (w : World) (h : ReadFs w u fs) : Calls Try.prog 95 #[u, .func (.func 96) #[] #[]] w fun e w' => e = .returned (.bool (!(fs.all mayF))) ∧ Below w.heap.size w w' := by
  obtain ⟨t, ht⟩ : ∃ t, t = fs.all mayF := ⟨_, rfl⟩
  rw [← ht]
  have HT := Lib.hid ht
  clear ht
  go_enter Try.func95, Try.ntmps95
  go_wp2_with fail
  refine (idxF_any _ fs _ h).mono ?_
  rintro e w' ⟨i, rfl, hi, hb⟩
  rw [← HT.out] at hi
  cases t
  · have hi : 0 ≤ i := by simpa using hi
    go_wp2_with fail
    go_ret
    exact ⟨rfl, hb⟩
  · have hi : i = -1 := by simpa using hi
    subst hi
    go_wp2_with fail
    go_ret
    exact ⟨rfl, hb⟩
set_option maxRecDepth 100000 in
set_option maxHeartbeats 2000000 in
theorem pmay_any (p : PrV) (P : PrM) (w : World) (h : ReadP w p P) : Calls Try.prog 77 #[aggP p] w fun e w' => e = .returned (.bool (mayP P)) ∧ Below w.heap.size w w' := by
  obtain ⟨u, ⟨ga, gn, gc⟩, m, ⟨fa, fn, fc⟩⟩ := p
  obtain ⟨pu, gl, pm, fs⟩ := P
  obtain ⟨hu, hg, hm, hf⟩ := h
  simp only at hu hm
  subst hm
  clear hu
  obtain ⟨hg1, hg2, hg3⟩ := sli_cap (show ReadI w (.slice ga gn gc) gl from hg)
  subst hg3
  have hfl : fn = fs.length := by
    obtain ⟨L, hL, hA⟩ := hf
    exact (slr_cap (show ReadR fnE w (.slice fa fn fc) L from hL)).2.2.trans (allF_len hA)
  subst hfl
  have hfm : fs.length ≤ fc ∧ fc ≤ maxLen := by
    obtain ⟨L, hL, hA⟩ := hf
    have := slr_cap (show ReadR fnE w (.slice fa fs.length fc) L from hL); exact ⟨this.1, this.2.1⟩
  have hfm2 := cap_le hfm.2
  have hgm := cap_le hg2
  have HG := Lib.hid (show ReadI w (.slice ga gl.length gc) gl from hg)
  have HF := Lib.hid (show ReadFs w (.slice fa fs.length fc) fs from hf)
  have HM2 : Hid (mayP ⟨pu, gl, m, fs⟩ = (decide (1 ≤ fs.length) && (decide (fs.length ≤ 16) && (decide (0 ≤ m) && (decide (m ≤ 4) && (kindsB gl 8 && fs.all mayF)))))) := rfl
  clear hg hf hg2
  obtain ⟨hfm1, _⟩ := hfm
  obtain ⟨t, ht⟩ : ∃ t, t = mayP ⟨pu, gl, m, fs⟩ := ⟨_, rfl⟩
  rw [← ht]
  have HT := Lib.hid ht
  clear ht
  unfold aggP Sl.v
  simp only
  by_cases c1 : 8 < gl.length
  · have c1' : (8 : Int) < gl.length := by omega
    obtain rfl : t = false := by rw [HT.out, HM2.out]; unfold kindsB; rw [decide_eq_false (show ¬ (gl.length : Int) ≤ 8 by omega)]; simp
    go_enter Try.func77, Try.ntmps77
    go_wp2_with fail
    go_ret
    exact ⟨rfl, b_alloc (Below.refl _ _) _⟩
  have c1' : ¬ (8 : Int) < gl.length := by omega
  go_enter Try.func77, Try.ntmps77
  go_wp2_with fail
  refine (right_any _ gl _ (readI_below HG.out (b_alloc (Below.refl _ _) _))).mono ?_
  rintro e w' ⟨rfl, rfl⟩
  obtain ⟨t1, ht1⟩ : ∃ t, t = gl.all kindB := ⟨_, rfl⟩
  rw [← ht1]
  have HT1 := Lib.hid ht1
  clear ht1
  cases t1
  · obtain rfl : t = false := by rw [HT.out, HM2.out]; unfold kindsB; rw [← HT1.out]; simp
    go_wp2_with fail
    go_ret
    exact ⟨rfl, b_alloc (Below.refl _ _) _⟩
  by_cases c2 : m < 0
  · obtain rfl : t = false := by rw [HT.out, HM2.out, decide_eq_false (show ¬ 0 ≤ m by omega)]; simp
    go_wp2_with fail
    go_ret
    exact ⟨rfl, b_alloc (Below.refl _ _) _⟩
  by_cases c3 : 4 < m
  · obtain rfl : t = false := by rw [HT.out, HM2.out, decide_eq_false (show ¬ m ≤ 4 by omega)]; simp
    go_wp2_with fail
    go_ret
    exact ⟨rfl, b_alloc (Below.refl _ _) _⟩
  by_cases c4 : fs.length < 1
  · have c4' : (fs.length : Int) < 1 := by omega
    obtain rfl : t = false := by rw [HT.out, HM2.out, decide_eq_false (show ¬ 1 ≤ fs.length by omega)]; simp
    go_wp2_with fail
    go_ret
    exact ⟨rfl, b_alloc (Below.refl _ _) _⟩
  have c4' : ¬ (fs.length : Int) < 1 := by omega
  by_cases c5 : 16 < fs.length
  · have c5' : (16 : Int) < fs.length := by omega
    obtain rfl : t = false := by rw [HT.out, HM2.out, decide_eq_false (show ¬ fs.length ≤ 16 by omega)]; simp
    go_wp2_with fail
    go_ret
    exact ⟨rfl, b_alloc (Below.refl _ _) _⟩
  have c5' : ¬ (16 : Int) < fs.length := by omega
  have HM3 : Hid (t = fs.all mayF) := by
    show _ = _
    rw [HT.out, HM2.out, decide_eq_true (show 1 ≤ fs.length by omega), decide_eq_true (show fs.length ≤ 16 by omega), decide_eq_true (show 0 ≤ m by omega), decide_eq_true (show m ≤ 4 by omega)]
    unfold kindsB
    rw [← HT1.out, decide_eq_true (show (gl.length : Int) ≤ 8 by omega)]
    rfl
  clear HT HM2
  go_wp2_with fail
  refine (contF_any _ fs _ (readFs_below HF.out (b_alloc (Below.refl _ _) _))).mono ?_
  rintro e w1 ⟨rfl, hb1⟩
  rw [← HM3.out]
  have HB1 := Lib.hid (b_call (b_alloc (Below.refl _ _) _) hb1)
  clear hb1
  cases t
  · go_wp2_with fail
    go_ret
    exact ⟨rfl, HB1.out⟩
  · go_wp2_with fail
    go_ret
    exact ⟨rfl, HB1.out⟩
/-- Bytes as a string. -/
def bytesOf (xs : List Int) : ByteArray := ⟨(xs.map (fun x => UInt8.ofNat x.toNat)).toArray⟩
theorem kinds (op : Int) : (shOk op = false ∧ shN op = 0 ∧ shX op = false) ∨ (shOk op = true ∧ shN op = 0 ∧ shX op = false) ∨ (shOk op = true ∧ shN op = 0 ∧ shX op = true) ∨ (shOk op = true ∧ shN op = 1 ∧ shX op = false) ∨ (shOk op = true ∧ shN op = 2 ∧ shX op = false) := by
  have h := kind_le op
  unfold shOk shN shX
  generalize kindOf op = n at h
  match n, h with
  | 0, _ => exact Or.inr (Or.inl ⟨rfl, rfl, rfl⟩)
  | 1, _ => exact Or.inr (Or.inr (Or.inl ⟨rfl, rfl, rfl⟩))
  | 2, _ => exact Or.inr (Or.inr (Or.inr (Or.inl ⟨rfl, rfl, rfl⟩)))
  | 3, _ => exact Or.inr (Or.inr (Or.inr (Or.inr ⟨rfl, rfl, rfl⟩)))
  | 4, _ => exact Or.inl ⟨rfl, rfl, rfl⟩
def GoodIn (i : In4) : Prop := 0 ≤ i.x ∧ i.x < 18446744073709551616
def GoodP (p : PrM) : Prop := ∀ f ∈ p.fs, ∀ i ∈ f.code, GoodIn i
/-- What a function that may be is. -/
structure OkF (f : FnM) : Prop where
  p : f.ps.length ≤ 8
  l : f.ls.length ≤ 8
  r : 0 ≤ f.r ∧ f.r ≤ 3
  c1 : 1 ≤ f.code.length
  c2 : f.code.length ≤ 96
  i : ∀ i ∈ f.code, mayI i = true
  kp : ∀ x ∈ f.ps, 0 ≤ x ∧ x ≤ 3
  kl : ∀ x ∈ f.ls, 0 ≤ x ∧ x ≤ 3
  pl : f.ps.length + f.ls.length ≤ 8
theorem kinds_all {xs : List Int} {most : Int} (h : kindsB xs most = true) : (∀ x ∈ xs, 0 ≤ x ∧ x ≤ 3) ∧ (xs.length : Int) ≤ most := by
  unfold kindsB at h
  rw [Bool.and_eq_true] at h
  refine ⟨fun x hx => ?_, of_decide_eq_true h.2⟩
  have := List.all_eq_true.1 h.1 x hx
  unfold kindB at this
  rw [Bool.and_eq_true] at this
  exact ⟨of_decide_eq_true this.1, of_decide_eq_true this.2⟩
theorem okF_of {f : FnM} (h : mayF f = true) : OkF f := by
  unfold mayF at h
  simp only [Bool.and_eq_true] at h
  obtain ⟨h1, h2, h3, h4, h5, h6, h7⟩ := h
  obtain ⟨a1, a2⟩ := kinds_all h1
  obtain ⟨b1, b2⟩ := kinds_all h2
  have h3 := of_decide_eq_true h3
  have h4 := of_decide_eq_true h4
  have h5 := of_decide_eq_true h5
  have h6 := of_decide_eq_true h6
  exact ⟨by omega, by omega, ⟨h3, h4⟩, h5, h6, fun i hi => List.all_eq_true.1 h7 i hi, a1, b1, by omega⟩
structure OkP (p : PrM) : Prop where
  f1 : 1 ≤ p.fs.length
  f2 : p.fs.length ≤ 16
  m : 0 ≤ p.m ∧ p.m ≤ 4
  g : p.gl.length ≤ 8
  kg : ∀ x ∈ p.gl, 0 ≤ x ∧ x ≤ 3
  f : ∀ f ∈ p.fs, OkF f
theorem okP_of {p : PrM} (h : mayP p = true) : OkP p := by
  unfold mayP at h
  simp only [Bool.and_eq_true] at h
  obtain ⟨h1, h2, h3, h4, h5, h6⟩ := h
  obtain ⟨a1, a2⟩ := kinds_all h5
  have h1 := of_decide_eq_true h1
  have h2 := of_decide_eq_true h2
  have h3 := of_decide_eq_true h3
  have h4 := of_decide_eq_true h4
  exact ⟨h1, h2, ⟨h3, h4⟩, by omega, a1, fun f hf => okF_of (List.all_eq_true.1 h6 f hf)⟩
theorem small_ok {p : PrM} (h : OkP p) : SmallP p := ⟨by have := h.g; omega, by have := h.f2; omega, fun f hf => ⟨by have := (h.f f hf).p; omega, by have := (h.f f hf).l; omega, by have := (h.f f hf).c2; omega⟩⟩
/-- A program that Cut has made: its lists are older ones, but for the functions' own row. -/
structure CutMade (W0 : World) (B : Nat) (w' : World) (q : PrV) (C : PrM) : Prop where
  u : q.u = C.u
  m : q.m = C.m
  g : ReadI W0 (.slice q.g.a q.g.n q.g.c) C.gl
  f : ∃ L, OwnR fnE 35 w' B (.slice q.f.a q.f.n q.f.c) L ∧ AllF W0 L C.fs
theorem cutMade_read {W0 w' : World} {B : Nat} {q : PrV} {C : PrM} (h : CutMade W0 B w' q C) (hb : Below W0.heap.size W0 w') : ReadP w' q C := by
  obtain ⟨h1, h2, h3, L, h4, h5⟩ := h
  exact ⟨h1, readI_below h3 hb, h2, L, ownR_read h4, allF_below hb h5⟩
theorem cutMade_grown {W0 w w' : World} {B j : Nat} {q : PrV} {C : PrM} (h : CutMade W0 B w q C) (hg : w.grownBy w' (some j)) (hj : j < B) : CutMade W0 B w' q C := by
  obtain ⟨h1, h2, h3, L, h4, h5⟩ := h
  refine ⟨h1, h2, h3, L, ownR_kept h4 hg ?_, h5⟩
  cases hv : (Value.slice q.f.a q.f.n q.f.c).ownBlock with
  | none => exact Or.inl rfl
  | some i => exact Or.inr (by intro e; injection e with e; have := (ownR_lt h4 i hv).1; omega)
theorem cutM_end {W0 w' : World} {u : Bool} {ga : Option Addr} {gn gc : Nat} {m : Int} {va : Option Addr} {n0 vc B : Nat} {L : List FnV} {P : PrM} {k : Nat} (hu : u = P.u) (hg : ReadI W0 (.slice ga (c10 gn) gc) (P.gl.take 10)) (hm : m = P.m) (hA : AllF W0 L P.fs) (hk : k = 17 ∨ (k = L.length ∧ k ≤ 17)) (own : OwnR fnE 35 w' B (.slice va n0 vc) ((L.take k).map cutV)) :
    CutMade W0 B w' ⟨u, ⟨ga, c10 gn, gc⟩, m, ⟨va, n0, vc⟩⟩ (cutP P) := by
  refine ⟨hu, hm, hg, _, own, ?_⟩
  have e : P.fs.take 17 = P.fs.take k := by
    have hl := allF_len hA
    rcases hk with rfl | ⟨h1, h2⟩
    · rfl
    · rw [List.take_of_length_le (by omega), List.take_of_length_le (by omega)]
  show AllF W0 _ ((P.fs.take 17).map cutF)
  rw [e]
  exact allF_cut k hA
set_option maxRecDepth 100000 in
set_option maxHeartbeats 2000000 in
theorem cut_made (p : PrV) (P : PrM) (W0 w : World) (h0 : ReadP W0 p P) (hb0 : Below W0.heap.size W0 w) : Calls Try.prog 15 #[aggP p] w fun e w' => ∃ q, e = .returned (aggP q) ∧ CutMade W0 w.heap.size w' q (cutP P) ∧ Below w.heap.size w w' := by
  obtain ⟨u, ⟨ga, gn, gc⟩, m, ⟨fa, fn, fc⟩⟩ := p
  obtain ⟨hu, hg0, hm, L, hL0, hA0⟩ := h0
  simp only at hu hm
  unfold Sl.v at hg0 hL0
  simp only at hg0 hL0
  have hg := readI_below hg0 hb0
  have hL := readR_below hL0 hb0
  have hA := allF_below hb0 hA0
  have HG0 := Lib.hid (readI_c10 hg0)
  have HA0 := Lib.hid hA0
  clear hg0 hL0 hA0 hb0
  obtain ⟨hg1, hg2, hg3⟩ := sli_cap hg
  obtain ⟨hf1, hf2, hf3⟩ := slr_cap hL
  subst hf3
  have hfm := cap_le hf2
  have HCI := Lib.hid (fun w => ints_any ga gn gc w hg1 hg2)
  have hGT := readI_c10 hg
  have HGT := Lib.hid hGT
  have HL := Lib.hid hL; have HA := Lib.hid hA
  have HU := Lib.hid hu; have HM := Lib.hid hm
  clear hg hL hA hGT hu hm hg3
  unfold aggP Sl.v
  simp only
  go_enter Try.func15, Try.ntmps15
  go_upto_region 1 with fail
  refine wp_named ?_
  intro W hW
  have BX : Blk W w.heap.size [.bool u, .slice ga gn gc, .int .i64 m, .slice fa L.length fc] := by rw [hW]; exact blk_alloc (blk_new _ _ _) _
  have BR : Blk W (w.heap.size + 1) [.bool false, .slice none 0 0, .int .i64 0, .slice none 0 0] := by
    have q := blk_new (w.alloc (.cells #[.bool u, .slice ga gn gc, .int .i64 m, .slice fa L.length fc] 25)) #[.bool false, .slice none 0 0, .int .i64 0, .slice none 0 0] 25
    rw [World.size_alloc] at q
    rw [hW]; exact q
  have hBW : Below w.heap.size w W := by rw [hW]; exact b_alloc (b_alloc (Below.refl _ _) _) _
  have hWs : w.heap.size + 2 ≤ W.heap.size := by have := BR.1; omega
  have HBX := Lib.hid BX; have HBR := Lib.hid BR
  obtain ⟨x0, x1, x2, x3, xf⟩ := blk4 BX
  clear hW BX BR
  go_cut [3] (fun s wx => ∃ g, s = .pointer (some ⟨g, 0, none⟩) ∧ W.heap.size ≤ g ∧ CutSt W wx g u (.slice ga (c10 gn) gc) m [])
  case first =>
    have HW : Hid (∀ w', Below W.heap.size W w' → w'.cell? ⟨w.heap.size, 0, none⟩ = some (.bool u) ∧ w'.cell? ⟨w.heap.size, 1, none⟩ = some (.slice ga gn gc) ∧ w'.cell? ⟨w.heap.size, 2, none⟩ = some (.int .i64 m)) := Lib.hid (fun w' hb => by
      obtain ⟨y0, y1, y2, y3, yf⟩ := blk4 (blk_below HBX.out hb)
      exact ⟨y0, y1, y2⟩)
    go_region_held3 (fun w' => w'.cell? ⟨w.heap.size, 0, none⟩ = some (.bool u) ∧ w'.cell? ⟨w.heap.size, 1, none⟩ = some (.slice ga gn gc) ∧ w'.cell? ⟨w.heap.size, 2, none⟩ = some (.int .i64 m))
      (exact HW.out _ (by (repeat' (first | exact Below.refl _ _ | assumption | refine b_alloc ?_ _ | refine b_drew ?_ | refine b_set ?_ (by simp) _))))
      (first | (go_at_call 57; refine (HCI.out _).mono ?_; rintro e w' ⟨rfl, rfl⟩))
    all_goals
      go_wp2_with fail
      go_meet
      case rel => exact ⟨_, rfl, Nat.le_refl _, .slice none 0 0, ownR_nil _ _, blk_drew (blk_new W #[.bool u, .slice ga (c10 gn) gc, .int .i64 m, .slice none 0 0] _), by (repeat' (first | exact Below.refl _ _ | assumption | refine b_alloc ?_ _ | refine b_drew ?_))⟩
  case rest =>
    obtain ⟨g, rfl, hgW, hst⟩ := hcut
    have hx3 : wc.cell? ⟨w.heap.size, 3, none⟩ = some (.slice fa L.length fc) := by
      obtain ⟨v0, _, _, hb⟩ := hst
      exact (blk4 (blk_below HBX.out hb)).2.2.2.1
    have HST := Lib.hid hst
    clear x0 x1 x2 x3 xf hst
    go_wp2_with fail
    go_loopw [18] (fun i wr => ∃ k : Nat, k ≤ L.length ∧ k ≤ 17 ∧ i = .int .i64 k ∧ Hid (CutSt W wr g u (.slice ga (c10 gn) gc) m ((L.take k).map cutV))) (fun i _ => L.length - (intOf i).toNat)
    case atStart => exact ⟨0, Nat.zero_le _, by omega, rfl, HST.out⟩
    case round =>
      obtain ⟨k, hk, hk17, rfl, hp⟩ := hrel
      obtain ⟨v0, hown, hblk, hbw⟩ := hp.out
      have hgl := hblk.1
      obtain ⟨y0, y1, y2, y3, yf⟩ := blk4 hblk
      have k0 : (0 : Int) ≤ k := by omega
      have k17 : (k : Int) ≤ 17 := by omega
      have hrd := readR_below HL.out hBW
      by_cases hlt : k < L.length
      · obtain ⟨bl, off, cp, e1, r1, r2, hbl, r4⟩ := readR_pos hrd (by omega)
        cases e1
        have k1 : (k : Int) < L.length := by omega
        have hcs := fn_cells r4 k hlt
        rw [← (bcell hbw).1 _ _ hbl, ← (bcell hbw).1 _ _ hbl, ← (bcell hbw).1 _ _ hbl, ← (bcell hbw).1 _ _ hbl] at hcs
        have hAF : ∃ f, DeepF w L[k] f := ⟨_, allF_at HA.out k hlt (by rw [← allF_len HA.out]; exact hlt)⟩
        have HSN : Hid ((L.take (k + 1)).map cutV = (L.take k).map cutV ++ [cutV L[k]]) := by
          show _ = _
          rw [List.take_succ_eq_append_getElem hlt, List.map_append]; rfl
        generalize L[k] = f at *
        obtain ⟨⟨pa, pn, pc⟩, ⟨la, ln, lc⟩, r, ⟨ca, cn, cc⟩⟩ := f
        simp only at hcs
        obtain ⟨d0, d1, d2, d3⟩ := hcs
        obtain ⟨fm, df⟩ := hAF
        have hpc := sli_cap df.p
        have hlc := sli_cap df.l
        have hcc := slr_cap df.c
        simp only at hpc hlc hcc
        have hp1 := hpc.1; have hp2 := hpc.2.1; have hl1 := hlc.1; have hl2 := hlc.2.1
        have hc1 := hcc.1
        have hc2 := cap_le hcc.2.1
        have hc3 : (cn : Int) ≤ cc := by omega
        have hown2 := ownR_lt hown
        have HOWN := Lib.hid hown; have HBLK := Lib.hid hblk
        have HBW := Lib.hid hbw
        clear r4 hrd df hpc hlc hcc hown hblk hp hbw
        by_cases h17 : k < 17
        · have t17 : ¬ (17 : Int) ≤ k := by omega
          have HB5 : Hid (Below wr.heap.size wr (wr.alloc (.cells #[.slice pa pn pc, .slice la ln lc, .int .i64 r, .slice ca cn cc] 35))) := Lib.hid (b_alloc (Below.refl _ _) _)
          have HX5 : Hid (Blk (wr.alloc (.cells #[.slice pa pn pc, .slice la ln lc, .int .i64 r, .slice ca cn cc] 35)) wr.heap.size [.slice pa pn pc, .slice la ln lc, .int .i64 r, .slice ca cn cc]) := Lib.hid (blk_new _ _ _)
          rcases (show (100 < cn ∧ c100 cn = 100) ∨ (¬ 100 < cn ∧ c100 cn = cn) by unfold c100; split <;> omega) with ⟨q, hq⟩ | ⟨q, hq⟩
          · have q1 : (100 : Int) < cn := by omega
            have q2 : (100 : Int) ≤ cc := by omega
            have q3 : 100 ≤ cc := by omega
            have HQ := Lib.hid hq; clear hq
            go_upto_region 9 with fail
            refine wp_named ?_
            intro W5 hW5
            have hb5 : Below wr.heap.size wr W5 := by rw [hW5]; exact HB5.out
            have X5 : Blk W5 wr.heap.size [.slice pa pn pc, .slice la ln lc, .int .i64 r, .slice ca cn cc] := by rw [hW5]; exact HX5.out
            have own5 := ownR_below HOWN.out hb5
            have blk5 := blk_below HBLK.out hb5
            have HX := Lib.hid X5; have HO5 := Lib.hid own5; have HK5 := Lib.hid blk5
            have HS5 : Hid (∀ w', Blk w' g [.bool u, .slice ga (c10 gn) gc, .int .i64 m, v0] → Blk w' wr.heap.size [.slice pa pn pc, .slice la ln lc, .int .i64 r, .slice ca cn cc] → w'.cell? ⟨g, 3, none⟩ = some v0 ∧ w'.cell? ⟨wr.heap.size, 0, none⟩ = some (.slice pa pn pc) ∧ w'.cell? ⟨wr.heap.size, 1, none⟩ = some (.slice la ln lc) ∧ w'.cell? ⟨wr.heap.size, 2, none⟩ = some (.int .i64 r)) := Lib.hid (fun w' h1 h2 => by
              obtain ⟨_, _, _, a3, _⟩ := blk4 h1
              obtain ⟨b0, b1, b2, _, _⟩ := blk4 h2
              exact ⟨a3, b0, b1, b2⟩)
            have hw5s := hb5.size
            have hgl5 := blk5.1
            have hfz5 := blk5.2.2
            have hx5l := X5.1
            have hne1 : some g ≠ v0.ownBlock := fun e => by have := (hown2 _ e.symm).1; omega
            have hne2 : some wr.heap.size ≠ v0.ownBlock := fun e => by have := (hown2 _ e.symm).2; omega
            clear hW5 X5 own5 blk5 d0 d1 d2 d3 y0 y1 y2 y3 yf
            have HRN : Hid (ReadR fnE (W5.alloc (.cells #[.slice pa (c10 pn) pc, .slice la (c10 ln) lc, .int .i64 r, .slice ca 100 cc] 35)).drew (.slice (some ⟨W5.heap.size, 0, none⟩) 1 1) [⟨⟨pa, c10 pn, pc⟩, ⟨la, c10 ln, lc⟩, r, ⟨ca, 100, cc⟩⟩]) := readR_new (c := fnE) W5 _ ⟨⟨pa, c10 pn, pc⟩, ⟨la, c10 ln, lc⟩, r, ⟨ca, 100, cc⟩⟩
            have hLk : ((L.take k).map cutV).length ≤ 17 := by simp; omega
            have S5 := HS5.out _ (blk_drew HK5.out) (blk_drew HX.out)
            refine wp_region_E (S := (fun w' => w'.cell? ⟨g, 3, none⟩ = some v0 ∧ w'.cell? ⟨wr.heap.size, 0, none⟩ = some (.slice pa pn pc) ∧ w'.cell? ⟨wr.heap.size, 1, none⟩ = some (.slice la ln lc) ∧ w'.cell? ⟨wr.heap.size, 2, none⟩ = some (.int .i64 r))) 15 (by kernel_rfl) S5 (fun hHeld => ?_)
            clear S5
            (refine wpAnyE_take (n := 12) (i := 0) (v := ?_) rfl (by kernel_rfl) (by kernel_rfl) (by kernel_rfl) (by kernel_rfl) (by kernel_rfl) (fun _ _ _ h => h) (Or.inl ⟨by rfl, ?_⟩) hHeld ?_; rotate_left; (focus (intro w hSw; (try dsimp only at hSw); go_simp; try (with_reducible rfl))); (try simp only [Act.put, List.getElem_toArray, List.getElem_cons_succ, List.getElem_cons_zero, List.setIfInBounds_toArray, List.set_cons_zero, List.set_cons_succ]))
            (refine wpAnyE_take (n := 12) (i := 1) (v := ?_) rfl (by kernel_rfl) (by kernel_rfl) (by kernel_rfl) (by kernel_rfl) (by kernel_rfl) (fun _ _ _ h => h) (Or.inl ⟨by rfl, ?_⟩) hHeld ?_; rotate_left; (focus (intro w hSw; (try dsimp only at hSw); go_simp; try (with_reducible rfl))); (try simp only [Act.put, List.getElem_toArray, List.getElem_cons_succ, List.getElem_cons_zero, List.setIfInBounds_toArray, List.set_cons_zero, List.set_cons_succ]))
            (refine wpAnyE_take (n := 12) (i := 2) (v := ?_) rfl (by kernel_rfl) (by kernel_rfl) (by kernel_rfl) (by kernel_rfl) (by kernel_rfl) (fun _ _ _ h => h) (Or.inl ⟨by rfl, ?_⟩) hHeld ?_; rotate_left; (focus (intro w hSw; (try dsimp only at hSw); go_simp; try (with_reducible rfl))); (try simp only [Act.put, List.getElem_toArray, List.getElem_cons_succ, List.getElem_cons_zero, List.setIfInBounds_toArray, List.set_cons_zero, List.set_cons_succ]))
            (refine wpAnyE_take (n := 12) (i := 3) (v := ?_) rfl (by kernel_rfl) (by kernel_rfl) (by kernel_rfl) (by kernel_rfl) (by kernel_rfl) (fun _ _ _ h => h) (Or.inl ⟨by rfl, ?_⟩) hHeld ?_; rotate_left; (focus (intro w hSw; (try dsimp only at hSw); go_simp; try (with_reducible rfl))); (try simp only [Act.put, List.getElem_toArray, List.getElem_cons_succ, List.getElem_cons_zero, List.setIfInBounds_toArray, List.set_cons_zero, List.set_cons_succ]))
            (refine wpAnyE_take (n := 12) (i := 5) (v := ?_) rfl (by kernel_rfl) (by kernel_rfl) (by kernel_rfl) (by kernel_rfl) (by kernel_rfl) (fun _ _ _ h => h) (Or.inl ⟨by rfl, ?_⟩) hHeld ?_; rotate_left; (focus (intro w hSw; (try dsimp only at hSw); go_simp; try (with_reducible rfl))); (try simp only [Act.put, List.getElem_toArray, List.getElem_cons_succ, List.getElem_cons_zero, List.setIfInBounds_toArray, List.set_cons_zero, List.set_cons_succ]))
            (refine wpAnyE_take (n := 12) (i := 6) (v := ?_) rfl (by kernel_rfl) (by kernel_rfl) (by kernel_rfl) (by kernel_rfl) (by kernel_rfl) (fun _ _ _ h => h) (Or.inl ⟨by rfl, ?_⟩) hHeld ?_; rotate_left; (focus (intro w hSw; (try dsimp only at hSw); go_simp; try (with_reducible rfl))); (try simp only [Act.put, List.getElem_toArray, List.getElem_cons_succ, List.getElem_cons_zero, List.setIfInBounds_toArray, List.set_cons_zero, List.set_cons_succ]))
            (refine wpAnyE_take (n := 12) (i := 8) (v := ?_) rfl (by kernel_rfl) (by kernel_rfl) (by kernel_rfl) (by kernel_rfl) (by kernel_rfl) (fun _ _ _ h => h) (Or.inl ⟨by rfl, ?_⟩) hHeld ?_; rotate_left; (focus (intro w hSw; (try dsimp only at hSw); go_simp; try (with_reducible rfl))); (try simp only [Act.put, List.getElem_toArray, List.getElem_cons_succ, List.getElem_cons_zero, List.setIfInBounds_toArray, List.set_cons_zero, List.set_cons_succ]))
            (refine wpAnyE_take (n := 12) (i := 9) (v := ?_) rfl (by kernel_rfl) (by kernel_rfl) (by kernel_rfl) (by kernel_rfl) (by kernel_rfl) (fun _ _ _ h => h) (Or.inl ⟨by rfl, ?_⟩) hHeld ?_; rotate_left; (focus (intro w hSw; (try dsimp only at hSw); go_simp; try (with_reducible rfl))); (try simp only [Act.put, List.getElem_toArray, List.getElem_cons_succ, List.getElem_cons_zero, List.setIfInBounds_toArray, List.set_cons_zero, List.set_cons_succ]))
            (refine wpAnyE_take (n := 12) (i := 10) (v := ?_) rfl (by kernel_rfl) (by kernel_rfl) (by kernel_rfl) (by kernel_rfl) (by kernel_rfl) (fun _ _ _ h => h) (Or.inl ⟨by rfl, ?_⟩) hHeld ?_; rotate_left; (focus (intro w hSw; (try dsimp only at hSw); go_simp; try (with_reducible rfl))); (try simp only [Act.put, List.getElem_toArray, List.getElem_cons_succ, List.getElem_cons_zero, List.setIfInBounds_toArray, List.set_cons_zero, List.set_cons_succ]))
            refine wpAnyE_ready (rs := [4]) (by kernel_rfl) (by simp) (AllReadyE.cons rfl (fun K hK => ?_) AllReadyE.nil)
            go_simp
            refine (ints_any _ _ _ _ (by assumption) (by assumption)).mono ?_
            rintro e w' ⟨rfl, rfl⟩
            refine hK.out _ _ (hHeld) (fun hHeld => ?_)
            clear hK K
            (try simp only [Act.put, List.getElem_toArray, List.getElem_cons_succ, List.getElem_cons_zero, List.setIfInBounds_toArray, List.set_cons_zero, List.set_cons_succ])
            refine wpAnyE_ready (rs := [7]) (by kernel_rfl) (by simp) (AllReadyE.cons rfl (fun K hK => ?_) AllReadyE.nil)
            go_simp
            refine (ints_any _ _ _ _ (by assumption) (by assumption)).mono ?_
            rintro e w' ⟨rfl, rfl⟩
            refine hK.out _ _ (hHeld) (fun hHeld => ?_)
            clear hK K
            (try simp only [Act.put, List.getElem_toArray, List.getElem_cons_succ, List.getElem_cons_zero, List.setIfInBounds_toArray, List.set_cons_zero, List.set_cons_succ])
            (refine wpAnyE_take (n := 12) (i := 11) (v := ?_) rfl (by kernel_rfl) (by kernel_rfl) (by kernel_rfl) (by kernel_rfl) (by kernel_rfl) (fun _ _ _ h => h) (Or.inl ⟨by rfl, ?_⟩) hHeld ?_; rotate_left; (focus (intro w hSw; (try dsimp only at hSw); go_simp; try (with_reducible rfl))); (try simp only [Act.put, List.getElem_toArray, List.getElem_cons_succ, List.getElem_cons_zero, List.setIfInBounds_toArray, List.set_cons_zero, List.set_cons_succ]))
            refine wpAnyE_ready (rs := [12]) (by kernel_rfl) (by simp) (AllReadyE.cons rfl (fun K hK => ?_) AllReadyE.nil)
            go_simp
            refine hK.out _ _ (HS5.out _ (blk_drew (blk_alloc HK5.out _)) (blk_drew (blk_alloc HX.out _))) (fun hHeld => ?_)
            clear hK K
            (try simp only [Act.put, List.getElem_toArray, List.getElem_cons_succ, List.getElem_cons_zero, List.setIfInBounds_toArray, List.set_cons_zero, List.set_cons_succ])
            refine wpAnyE_ready (rs := [13]) (by kernel_rfl) (by simp) (AllReadyE.cons rfl (fun K hK => ?_) AllReadyE.nil)
            refine step_appendR rowFn (by rfl) _ _ (by rfl) (g + 1) v0 ((L.take k).map cutV) (by rfl) (ownR_drew (ownR_alloc HO5.out _)) _ [⟨⟨pa, c10 pn, pc⟩, ⟨la, c10 ln, lc⟩, r, ⟨ca, 100, cc⟩⟩] (by rfl) HRN.out (by rw [List.length_singleton]; omega) (by rw [List.length_singleton]; unfold maxLen; omega) (by rw [World.size_drew, World.size_alloc]; omega) ?_
            intro v9 w9 own9 hg9
            obtain ⟨L9, hL9⟩ : ∃ L9, L9 = (L.take k).map cutV ++ [⟨⟨pa, c10 pn, pc⟩, ⟨la, c10 ln, lc⟩, r, ⟨ca, 100, cc⟩⟩] := ⟨_, rfl⟩
            rw [← hL9] at own9
            obtain ⟨g9, cap9, rfl, gg9, _⟩ := ownR_form own9 (by rw [hL9]; simp)
            have HL9 : Hid ((L.take (k + 1)).map cutV = L9) := by
              show _ = _
              rw [HSN.out, hL9]
              have e : cutV ⟨⟨pa, pn, pc⟩, ⟨la, ln, lc⟩, r, ⟨ca, cn, cc⟩⟩ = ⟨⟨pa, c10 pn, pc⟩, ⟨la, c10 ln, lc⟩, r, ⟨ca, 100, cc⟩⟩ := by unfold cutV; simp only [HQ.out]
              rw [e]
            have K9 := blk_grown (blk_drew (blk_alloc HK5.out _)) hg9 hne1
            have X9 := blk_grown (blk_drew (blk_alloc HX.out _)) hg9 hne2
            have B9 : Below W.heap.size W w9 := b_gr0 (b_drew (b_alloc (b_call HBW.out hb5) _)) hg9 (fun j hj => by have := (hown2 j hj).1; omega)
            clear hL9
            refine hK.out _ _ (HS5.out _ K9 X9) (fun hHeld => ?_)
            clear hK K
            (try simp only [Act.put, List.getElem_toArray, List.getElem_cons_succ, List.getElem_cons_zero, List.setIfInBounds_toArray, List.set_cons_zero, List.set_cons_succ])
            (refine wpAnyE_take (n := 12) (i := 14) (v := ?_) rfl (by kernel_rfl) (by kernel_rfl) (by kernel_rfl) (by kernel_rfl) (by kernel_rfl) (fun _ _ _ h => h) (Or.inl ⟨by rfl, ?_⟩) hHeld ?_; rotate_left; (focus (intro w hSw; (try dsimp only at hSw); go_simp; try (with_reducible rfl))); (try simp only [Act.put, List.getElem_toArray, List.getElem_cons_succ, List.getElem_cons_zero, List.setIfInBounds_toArray, List.set_cons_zero, List.set_cons_succ]))
            obtain ⟨z0, z1, z2, z3, zf⟩ := blk4 K9
            have ST : CutSt W (w9.setCell ⟨g, 3, none⟩ (.slice (some ⟨g9, 0, none⟩) L9.length cap9)) g u (.slice ga (c10 gn) gc) m ((L.take (k + 1)).map cutV) := by
              rw [HL9.out]
              exact ⟨_, ownR_kept own9 (gb_set (gb_refl w9 (some g)) 3 none _) (Or.inr (by intro e; have e2 : some g9 = some g := e; injection e2; omega)), blk_set K9 3 _, b_set B9 hgW _⟩
            have HSTT := Lib.hid ST
            clear ST own9 hg9 K9 X9 B9 z0 z1 z2 hHeld
            refine wpAnyE_ready (rs := [15]) (by kernel_rfl) (by simp) (AllReadyE.last rfl (fun K hK => ?_))
            go_simp
            refine hK.out _ _ (trivial) (fun hHeld => ?_)
            clear hK K
            (try simp only [Act.put, List.getElem_toArray, List.getElem_cons_succ, List.getElem_cons_zero, List.setIfInBounds_toArray, List.set_cons_zero, List.set_cons_succ])
            refine wpAnyE_done (by kernel_rfl) ?_
            go_wp2_with fail
            exact ⟨⟨k + 1, by omega, by omega, by go_num, HSTT⟩, by simp only [intOf]; omega⟩
          · have q1 : ¬ (100 : Int) < cn := by omega
            have HQ := Lib.hid hq; clear hq
            go_upto_region 9 with fail
            refine wp_named ?_
            intro W5 hW5
            have hb5 : Below wr.heap.size wr W5 := by rw [hW5]; exact HB5.out
            have X5 : Blk W5 wr.heap.size [.slice pa pn pc, .slice la ln lc, .int .i64 r, .slice ca cn cc] := by rw [hW5]; exact HX5.out
            have own5 := ownR_below HOWN.out hb5
            have blk5 := blk_below HBLK.out hb5
            have HX := Lib.hid X5; have HO5 := Lib.hid own5; have HK5 := Lib.hid blk5
            have HS5 : Hid (∀ w', Blk w' g [.bool u, .slice ga (c10 gn) gc, .int .i64 m, v0] → Blk w' wr.heap.size [.slice pa pn pc, .slice la ln lc, .int .i64 r, .slice ca cn cc] → w'.cell? ⟨g, 3, none⟩ = some v0 ∧ w'.cell? ⟨wr.heap.size, 0, none⟩ = some (.slice pa pn pc) ∧ w'.cell? ⟨wr.heap.size, 1, none⟩ = some (.slice la ln lc) ∧ w'.cell? ⟨wr.heap.size, 2, none⟩ = some (.int .i64 r)) := Lib.hid (fun w' h1 h2 => by
              obtain ⟨_, _, _, a3, _⟩ := blk4 h1
              obtain ⟨b0, b1, b2, _, _⟩ := blk4 h2
              exact ⟨a3, b0, b1, b2⟩)
            have hw5s := hb5.size
            have hgl5 := blk5.1
            have hfz5 := blk5.2.2
            have hx5l := X5.1
            have hne1 : some g ≠ v0.ownBlock := fun e => by have := (hown2 _ e.symm).1; omega
            have hne2 : some wr.heap.size ≠ v0.ownBlock := fun e => by have := (hown2 _ e.symm).2; omega
            clear hW5 X5 own5 blk5 d0 d1 d2 d3 y0 y1 y2 y3 yf
            have HRN : Hid (ReadR fnE (W5.alloc (.cells #[.slice pa (c10 pn) pc, .slice la (c10 ln) lc, .int .i64 r, .slice ca cn cc] 35)).drew (.slice (some ⟨W5.heap.size, 0, none⟩) 1 1) [⟨⟨pa, c10 pn, pc⟩, ⟨la, c10 ln, lc⟩, r, ⟨ca, cn, cc⟩⟩]) := readR_new (c := fnE) W5 _ ⟨⟨pa, c10 pn, pc⟩, ⟨la, c10 ln, lc⟩, r, ⟨ca, cn, cc⟩⟩
            have hLk : ((L.take k).map cutV).length ≤ 17 := by simp; omega
            have S5 := HS5.out _ (blk_drew HK5.out) (blk_drew HX.out)
            refine wp_region_E (S := (fun w' => w'.cell? ⟨g, 3, none⟩ = some v0 ∧ w'.cell? ⟨wr.heap.size, 0, none⟩ = some (.slice pa pn pc) ∧ w'.cell? ⟨wr.heap.size, 1, none⟩ = some (.slice la ln lc) ∧ w'.cell? ⟨wr.heap.size, 2, none⟩ = some (.int .i64 r))) 15 (by kernel_rfl) S5 (fun hHeld => ?_)
            clear S5
            (refine wpAnyE_take (n := 12) (i := 0) (v := ?_) rfl (by kernel_rfl) (by kernel_rfl) (by kernel_rfl) (by kernel_rfl) (by kernel_rfl) (fun _ _ _ h => h) (Or.inl ⟨by rfl, ?_⟩) hHeld ?_; rotate_left; (focus (intro w hSw; (try dsimp only at hSw); go_simp; try (with_reducible rfl))); (try simp only [Act.put, List.getElem_toArray, List.getElem_cons_succ, List.getElem_cons_zero, List.setIfInBounds_toArray, List.set_cons_zero, List.set_cons_succ]))
            (refine wpAnyE_take (n := 12) (i := 1) (v := ?_) rfl (by kernel_rfl) (by kernel_rfl) (by kernel_rfl) (by kernel_rfl) (by kernel_rfl) (fun _ _ _ h => h) (Or.inl ⟨by rfl, ?_⟩) hHeld ?_; rotate_left; (focus (intro w hSw; (try dsimp only at hSw); go_simp; try (with_reducible rfl))); (try simp only [Act.put, List.getElem_toArray, List.getElem_cons_succ, List.getElem_cons_zero, List.setIfInBounds_toArray, List.set_cons_zero, List.set_cons_succ]))
            (refine wpAnyE_take (n := 12) (i := 2) (v := ?_) rfl (by kernel_rfl) (by kernel_rfl) (by kernel_rfl) (by kernel_rfl) (by kernel_rfl) (fun _ _ _ h => h) (Or.inl ⟨by rfl, ?_⟩) hHeld ?_; rotate_left; (focus (intro w hSw; (try dsimp only at hSw); go_simp; try (with_reducible rfl))); (try simp only [Act.put, List.getElem_toArray, List.getElem_cons_succ, List.getElem_cons_zero, List.setIfInBounds_toArray, List.set_cons_zero, List.set_cons_succ]))
            (refine wpAnyE_take (n := 12) (i := 3) (v := ?_) rfl (by kernel_rfl) (by kernel_rfl) (by kernel_rfl) (by kernel_rfl) (by kernel_rfl) (fun _ _ _ h => h) (Or.inl ⟨by rfl, ?_⟩) hHeld ?_; rotate_left; (focus (intro w hSw; (try dsimp only at hSw); go_simp; try (with_reducible rfl))); (try simp only [Act.put, List.getElem_toArray, List.getElem_cons_succ, List.getElem_cons_zero, List.setIfInBounds_toArray, List.set_cons_zero, List.set_cons_succ]))
            (refine wpAnyE_take (n := 12) (i := 5) (v := ?_) rfl (by kernel_rfl) (by kernel_rfl) (by kernel_rfl) (by kernel_rfl) (by kernel_rfl) (fun _ _ _ h => h) (Or.inl ⟨by rfl, ?_⟩) hHeld ?_; rotate_left; (focus (intro w hSw; (try dsimp only at hSw); go_simp; try (with_reducible rfl))); (try simp only [Act.put, List.getElem_toArray, List.getElem_cons_succ, List.getElem_cons_zero, List.setIfInBounds_toArray, List.set_cons_zero, List.set_cons_succ]))
            (refine wpAnyE_take (n := 12) (i := 6) (v := ?_) rfl (by kernel_rfl) (by kernel_rfl) (by kernel_rfl) (by kernel_rfl) (by kernel_rfl) (fun _ _ _ h => h) (Or.inl ⟨by rfl, ?_⟩) hHeld ?_; rotate_left; (focus (intro w hSw; (try dsimp only at hSw); go_simp; try (with_reducible rfl))); (try simp only [Act.put, List.getElem_toArray, List.getElem_cons_succ, List.getElem_cons_zero, List.setIfInBounds_toArray, List.set_cons_zero, List.set_cons_succ]))
            (refine wpAnyE_take (n := 12) (i := 8) (v := ?_) rfl (by kernel_rfl) (by kernel_rfl) (by kernel_rfl) (by kernel_rfl) (by kernel_rfl) (fun _ _ _ h => h) (Or.inl ⟨by rfl, ?_⟩) hHeld ?_; rotate_left; (focus (intro w hSw; (try dsimp only at hSw); go_simp; try (with_reducible rfl))); (try simp only [Act.put, List.getElem_toArray, List.getElem_cons_succ, List.getElem_cons_zero, List.setIfInBounds_toArray, List.set_cons_zero, List.set_cons_succ]))
            (refine wpAnyE_take (n := 12) (i := 9) (v := ?_) rfl (by kernel_rfl) (by kernel_rfl) (by kernel_rfl) (by kernel_rfl) (by kernel_rfl) (fun _ _ _ h => h) (Or.inl ⟨by rfl, ?_⟩) hHeld ?_; rotate_left; (focus (intro w hSw; (try dsimp only at hSw); go_simp; try (with_reducible rfl))); (try simp only [Act.put, List.getElem_toArray, List.getElem_cons_succ, List.getElem_cons_zero, List.setIfInBounds_toArray, List.set_cons_zero, List.set_cons_succ]))
            (refine wpAnyE_take (n := 12) (i := 10) (v := ?_) rfl (by kernel_rfl) (by kernel_rfl) (by kernel_rfl) (by kernel_rfl) (by kernel_rfl) (fun _ _ _ h => h) (Or.inl ⟨by rfl, ?_⟩) hHeld ?_; rotate_left; (focus (intro w hSw; (try dsimp only at hSw); go_simp; try (with_reducible rfl))); (try simp only [Act.put, List.getElem_toArray, List.getElem_cons_succ, List.getElem_cons_zero, List.setIfInBounds_toArray, List.set_cons_zero, List.set_cons_succ]))
            refine wpAnyE_ready (rs := [4]) (by kernel_rfl) (by simp) (AllReadyE.cons rfl (fun K hK => ?_) AllReadyE.nil)
            go_simp
            refine (ints_any _ _ _ _ (by assumption) (by assumption)).mono ?_
            rintro e w' ⟨rfl, rfl⟩
            refine hK.out _ _ (hHeld) (fun hHeld => ?_)
            clear hK K
            (try simp only [Act.put, List.getElem_toArray, List.getElem_cons_succ, List.getElem_cons_zero, List.setIfInBounds_toArray, List.set_cons_zero, List.set_cons_succ])
            refine wpAnyE_ready (rs := [7]) (by kernel_rfl) (by simp) (AllReadyE.cons rfl (fun K hK => ?_) AllReadyE.nil)
            go_simp
            refine (ints_any _ _ _ _ (by assumption) (by assumption)).mono ?_
            rintro e w' ⟨rfl, rfl⟩
            refine hK.out _ _ (hHeld) (fun hHeld => ?_)
            clear hK K
            (try simp only [Act.put, List.getElem_toArray, List.getElem_cons_succ, List.getElem_cons_zero, List.setIfInBounds_toArray, List.set_cons_zero, List.set_cons_succ])
            (refine wpAnyE_take (n := 12) (i := 11) (v := ?_) rfl (by kernel_rfl) (by kernel_rfl) (by kernel_rfl) (by kernel_rfl) (by kernel_rfl) (fun _ _ _ h => h) (Or.inl ⟨by rfl, ?_⟩) hHeld ?_; rotate_left; (focus (intro w hSw; (try dsimp only at hSw); go_simp; try (with_reducible rfl))); (try simp only [Act.put, List.getElem_toArray, List.getElem_cons_succ, List.getElem_cons_zero, List.setIfInBounds_toArray, List.set_cons_zero, List.set_cons_succ]))
            refine wpAnyE_ready (rs := [12]) (by kernel_rfl) (by simp) (AllReadyE.cons rfl (fun K hK => ?_) AllReadyE.nil)
            go_simp
            refine hK.out _ _ (HS5.out _ (blk_drew (blk_alloc HK5.out _)) (blk_drew (blk_alloc HX.out _))) (fun hHeld => ?_)
            clear hK K
            (try simp only [Act.put, List.getElem_toArray, List.getElem_cons_succ, List.getElem_cons_zero, List.setIfInBounds_toArray, List.set_cons_zero, List.set_cons_succ])
            refine wpAnyE_ready (rs := [13]) (by kernel_rfl) (by simp) (AllReadyE.cons rfl (fun K hK => ?_) AllReadyE.nil)
            refine step_appendR rowFn (by rfl) _ _ (by rfl) (g + 1) v0 ((L.take k).map cutV) (by rfl) (ownR_drew (ownR_alloc HO5.out _)) _ [⟨⟨pa, c10 pn, pc⟩, ⟨la, c10 ln, lc⟩, r, ⟨ca, cn, cc⟩⟩] (by rfl) HRN.out (by rw [List.length_singleton]; omega) (by rw [List.length_singleton]; unfold maxLen; omega) (by rw [World.size_drew, World.size_alloc]; omega) ?_
            intro v9 w9 own9 hg9
            obtain ⟨L9, hL9⟩ : ∃ L9, L9 = (L.take k).map cutV ++ [⟨⟨pa, c10 pn, pc⟩, ⟨la, c10 ln, lc⟩, r, ⟨ca, cn, cc⟩⟩] := ⟨_, rfl⟩
            rw [← hL9] at own9
            obtain ⟨g9, cap9, rfl, gg9, _⟩ := ownR_form own9 (by rw [hL9]; simp)
            have HL9 : Hid ((L.take (k + 1)).map cutV = L9) := by
              show _ = _
              rw [HSN.out, hL9]
              have e : cutV ⟨⟨pa, pn, pc⟩, ⟨la, ln, lc⟩, r, ⟨ca, cn, cc⟩⟩ = ⟨⟨pa, c10 pn, pc⟩, ⟨la, c10 ln, lc⟩, r, ⟨ca, cn, cc⟩⟩ := by unfold cutV; simp only [HQ.out]
              rw [e]
            have K9 := blk_grown (blk_drew (blk_alloc HK5.out _)) hg9 hne1
            have X9 := blk_grown (blk_drew (blk_alloc HX.out _)) hg9 hne2
            have B9 : Below W.heap.size W w9 := b_gr0 (b_drew (b_alloc (b_call HBW.out hb5) _)) hg9 (fun j hj => by have := (hown2 j hj).1; omega)
            clear hL9
            refine hK.out _ _ (HS5.out _ K9 X9) (fun hHeld => ?_)
            clear hK K
            (try simp only [Act.put, List.getElem_toArray, List.getElem_cons_succ, List.getElem_cons_zero, List.setIfInBounds_toArray, List.set_cons_zero, List.set_cons_succ])
            (refine wpAnyE_take (n := 12) (i := 14) (v := ?_) rfl (by kernel_rfl) (by kernel_rfl) (by kernel_rfl) (by kernel_rfl) (by kernel_rfl) (fun _ _ _ h => h) (Or.inl ⟨by rfl, ?_⟩) hHeld ?_; rotate_left; (focus (intro w hSw; (try dsimp only at hSw); go_simp; try (with_reducible rfl))); (try simp only [Act.put, List.getElem_toArray, List.getElem_cons_succ, List.getElem_cons_zero, List.setIfInBounds_toArray, List.set_cons_zero, List.set_cons_succ]))
            obtain ⟨z0, z1, z2, z3, zf⟩ := blk4 K9
            have ST : CutSt W (w9.setCell ⟨g, 3, none⟩ (.slice (some ⟨g9, 0, none⟩) L9.length cap9)) g u (.slice ga (c10 gn) gc) m ((L.take (k + 1)).map cutV) := by
              rw [HL9.out]
              exact ⟨_, ownR_kept own9 (gb_set (gb_refl w9 (some g)) 3 none _) (Or.inr (by intro e; have e2 : some g9 = some g := e; injection e2; omega)), blk_set K9 3 _, b_set B9 hgW _⟩
            have HSTT := Lib.hid ST
            clear ST own9 hg9 K9 X9 B9 z0 z1 z2 hHeld
            refine wpAnyE_ready (rs := [15]) (by kernel_rfl) (by simp) (AllReadyE.last rfl (fun K hK => ?_))
            go_simp
            refine hK.out _ _ (trivial) (fun hHeld => ?_)
            clear hK K
            (try simp only [Act.put, List.getElem_toArray, List.getElem_cons_succ, List.getElem_cons_zero, List.setIfInBounds_toArray, List.set_cons_zero, List.set_cons_succ])
            refine wpAnyE_done (by kernel_rfl) ?_
            go_wp2_with fail
            exact ⟨⟨k + 1, by omega, by omega, by go_num, HSTT⟩, by simp only [intOf]; omega⟩
        · obtain rfl : k = 17 := by omega
          have B5 := b_alloc HBW.out (.cells #[.slice pa pn pc, .slice la ln lc, .int .i64 r, .slice ca cn cc] 35)
          have R5 := blk4 (blk_below HBR.out B5)
          have R5l := (blk_below HBR.out B5).1
          have RB := Lib.hid (blk_below HBR.out B5)
          have BWW := Lib.hid (b_call hBW B5)
          have K5 := blk_alloc HBLK.out (.cells #[.slice pa pn pc, .slice la ln lc, .int .i64 r, .slice ca cn cc] 35)
          have OWNZ := ownR_alloc HOWN.out (.cells #[.slice pa pn pc, .slice la ln lc, .int .i64 r, .slice ca cn cc] 35)
          obtain ⟨va, vc, ev, _⟩ := readR_len (ownR_read OWNZ)
          obtain ⟨n0, hn0⟩ : ∃ n0, n0 = ((L.take 17).map cutV).length := ⟨_, rfl⟩
          rw [← hn0] at ev
          subst ev
          clear hn0
          obtain ⟨e0, e1, e2, e3, ef⟩ := R5
          obtain ⟨f0, f1, f2, f3, ff⟩ := blk4 K5
          have HOZ := Lib.hid OWNZ
          have hOl := ownR_lt OWNZ
          have hblt := R5l
          clear OWNZ
          go_wp2_with fail
          refine post_named ?_
          intro wF hwF
          have BF : Blk wF (w.heap.size + 1) [.bool u, .slice ga (c10 gn) gc, .int .i64 m, .slice va n0 vc] := by rw [hwF]; exact blk_set (blk_set (blk_set (blk_set RB.out 0 _) 1 _) 2 _) 3 _
          have GF := gb_set (gb_set (gb_set (gb_set (gb_refl (wr.alloc (.cells #[.slice pa pn pc, .slice la ln lc, .int .i64 r, .slice ca cn cc] 35)) (some (w.heap.size + 1))) 0 none (.bool u)) 1 none (.slice ga (c10 gn) gc)) 2 none (.int .i64 m)) 3 none (.slice va n0 vc)
          rw [← hwF] at GF
          have FB : Below w.heap.size w wF := b_grown BWW.out GF (by omega)
          have OF := ownR_kept HOZ.out GF (by
            cases hv : (Value.slice va n0 vc).ownBlock with
            | none => exact Or.inl rfl
            | some j => exact Or.inr (by intro e; injection e with e; have := (hOl j hv).1; omega))
          clear hwF GF
          obtain ⟨c0, c1, c2, c3, _⟩ := blk4 BF
          exact bodyPost_ret (v := aggP ⟨u, ⟨ga, c10 gn, gc⟩, m, ⟨va, n0, vc⟩⟩) (by simp [results, Try.results15, go_sem, c0, c1, c2, c3]; rfl) rfl ⟨_, rfl, cutM_end HU.out HG0.out HM.out HA0.out (Or.inl rfl) (ownR_mono OF (by omega)), FB⟩
      · obtain rfl : k = L.length := by omega
        have R5 := blk4 (blk_below HBR.out hbw)
        have R5l := (blk_below HBR.out hbw).1
        have RB := Lib.hid (blk_below HBR.out hbw)
        have BWW := Lib.hid (b_call hBW hbw)
        have K5 := hblk
        have OWNZ := hown
        have HBW := Lib.hid hbw
        clear hbw hp
        obtain ⟨va, vc, ev, _⟩ := readR_len (ownR_read OWNZ)
        obtain ⟨n0, hn0⟩ : ∃ n0, n0 = ((L.take L.length).map cutV).length := ⟨_, rfl⟩
        rw [← hn0] at ev
        subst ev
        clear hn0
        obtain ⟨e0, e1, e2, e3, ef⟩ := R5
        obtain ⟨f0, f1, f2, f3, ff⟩ := blk4 K5
        have HOZ := Lib.hid OWNZ
        have hOl := ownR_lt OWNZ
        have hblt := R5l
        clear OWNZ
        go_wp2_with fail
        refine post_named ?_
        intro wF hwF
        have BF : Blk wF (w.heap.size + 1) [.bool u, .slice ga (c10 gn) gc, .int .i64 m, .slice va n0 vc] := by rw [hwF]; exact blk_set (blk_set (blk_set (blk_set RB.out 0 _) 1 _) 2 _) 3 _
        have GF := gb_set (gb_set (gb_set (gb_set (gb_refl wr (some (w.heap.size + 1))) 0 none (.bool u)) 1 none (.slice ga (c10 gn) gc)) 2 none (.int .i64 m)) 3 none (.slice va n0 vc)
        rw [← hwF] at GF
        have FB : Below w.heap.size w wF := b_grown BWW.out GF (by omega)
        have OF := ownR_kept HOZ.out GF (by
          cases hv : (Value.slice va n0 vc).ownBlock with
          | none => exact Or.inl rfl
          | some j => exact Or.inr (by intro e; injection e with e; have := (hOl j hv).1; omega))
        clear hwF GF
        obtain ⟨c0, c1, c2, c3, _⟩ := blk4 BF
        exact bodyPost_ret (v := aggP ⟨u, ⟨ga, c10 gn, gc⟩, m, ⟨va, n0, vc⟩⟩) (by simp [results, Try.results15, go_sem, c0, c1, c2, c3]; rfl) rfl ⟨_, rfl, cutM_end HU.out HG0.out HM.out HA0.out (Or.inr ⟨rfl, hk17⟩) (ownR_mono OF (by omega)), FB⟩
end Go.Proofs.Ytdmidnmciaediaa
