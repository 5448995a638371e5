/- Layer 25: the program's own May. Conditions: what is asked reads as lists. -/
import Derived.Test.YtedmjlhgpdeafaaDoorEq25
namespace Go.Proofs.YtedmjlhgpdeafaaDoor
open Go.RowKit
set_option linter.unusedVariables false
set_option linter.unusedSimpArgs false
attribute [local go_sem] over_cell over_frozen
theorem right1_any (x : Int) (w : World) : Calls Tryd.prog 80 #[.int .i64 x] w fun e w' => e = .returned (.bool (!kindB x)) ∧ w = w' := by
  by_cases h1 : x < 0
  · have e : kindB x = false := by unfold kindB; rw [decide_eq_false (by omega)]; rfl
    rw [e]; clear e
    go_enter Tryd.func80, Tryd.ntmps80
    go_wp2_with fail
    go_ret
    exact ⟨rfl, rfl⟩
  · by_cases h2 : 4 ≤ x
    · have e : kindB x = false := by unfold kindB; rw [decide_eq_false (show ¬ x ≤ 3 by omega)]; simp
      rw [e]; clear e
      go_enter Tryd.func80, Tryd.ntmps80
      go_wp2_with fail
      go_ret
      exact ⟨rfl, rfl⟩
    · have e : kindB x = true := by unfold kindB; rw [decide_eq_true (show x ≤ 3 by omega), decide_eq_true (show 0 ≤ x by omega)]; rfl
      rw [e]; clear e
      go_enter Tryd.func80, Tryd.ntmps80
      go_wp2_with fail
      go_ret
      exact ⟨rfl, rfl⟩
/-- A place at which something does not hold, or -1. -/
def IdxEnd (b : Bool) (W : World) (e : Ending) (w' : World) : Prop := ∃ i : Int, e = .returned (.int .i64 i) ∧ ((b = true ∧ i = -1) ∨ (b = false ∧ 0 ≤ i)) ∧ Below W.heap.size W w'
def IdxEnd0 (b : Bool) (W : World) (e : Ending) (w' : World) : Prop := ∃ i : Int, e = .returned (.int .i64 i) ∧ ((b = true ∧ i = -1) ∨ (b = false ∧ 0 ≤ i)) ∧ W = w'
set_option maxHeartbeats 800000 in
theorem idxI_any (u : Value) (xs : List Int) (w : World) (h : ReadI w u xs) : Calls Tryd.prog 97 #[u, .func (.func 80) #[] #[]] w (IdxEnd0 (xs.all kindB) w) := by
  obtain ⟨a, cap, rfl⟩ := readI_len h
  have hl : (xs.length : Int) ≤ 9223372036854775807 := by
    obtain ⟨_, _, e, h1, h2, _⟩ := h; have := cap_le h2; omega
  have H := Lib.hid h
  clear h
  go_enter Tryd.func97, Tryd.ntmps97
  go_wp2_with fail
  go_loopw [8] (fun i wr => ∃ k : Nat, k ≤ xs.length ∧ i = .int .i64 k ∧ wr = w ∧ Hid ((xs.take k).all kindB = true)) (fun i _ => xs.length - (intOf i).toNat)
  case atStart => exact ⟨0, Nat.zero_le _, rfl, rfl, rfl⟩
  case round =>
    obtain ⟨k, hk, rfl, rfl, hp⟩ := hrel
    have k0 : (0 : Int) ≤ k := by omega
    by_cases hlt : k < xs.length
    · obtain ⟨bl, off, cp, e1, r1, r2, hbl, r4⟩ := readI_pos H.out (by omega)
      cases e1
      have k1 : (k : Int) < xs.length := by omega
      have hc := r4 k hlt
      have HF : Hid (kindB xs[k] = false → xs.all kindB = false) := fun q => all_false hlt q
      have HT : Hid (kindB xs[k] = true → (xs.take (k + 1)).all kindB = true) := fun q => all_take hlt hp.out q
      rw [List.getD_eq_getElem?_getD, List.getElem?_eq_getElem hlt, Option.getD_some] at hc
      generalize xs[k] = x at *
      clear r4
      go_wp2_with fail
      refine (right1_any x _).mono ?_
      rintro e w' ⟨rfl, rfl⟩
      obtain ⟨t, ht⟩ : ∃ t, t = kindB x := ⟨_, rfl⟩
      rw [← ht]
      have HK := Lib.hid ht
      clear ht
      cases t
      · go_wp2_with fail
        go_ret
        exact ⟨_, rfl, Or.inr ⟨HF.out HK.out.symm, k0⟩, rfl⟩
      · go_wp2_with fail
        go_roundw
        case rel => exact ⟨k + 1, by omega, by first | rfl | trivial | go_num, by first | trivial | rfl, HT.out HK.out.symm⟩
        case measure => simp [intOf]; omega
    · have hall : xs.all kindB = true := by have q := hp.out; rw [List.take_of_length_le (by omega)] at q; exact q
      have HALL := Lib.hid hall
      clear hall hp
      go_wp2_with fail
      go_ret
      exact ⟨_, rfl, Or.inl ⟨HALL.out, rfl⟩, rfl⟩
theorem contI_any (u : Value) (xs : List Int) (w : World) (h : ReadI w u xs) : Calls Tryd.prog 79 #[u, .func (.func 80) #[] #[]] w fun e w' => e = .returned (.bool (!(xs.all kindB))) ∧ w = w' := by
  obtain ⟨t, ht⟩ : ∃ t, t = xs.all kindB := ⟨_, rfl⟩
  rw [← ht]
  have HT := Lib.hid ht
  clear ht
  go_enter Tryd.func79, Tryd.ntmps79
  go_wp2_with fail
  refine (idxI_any _ xs _ h).mono ?_
  rintro e w' ⟨i, rfl, hi, rfl⟩
  rw [← HT.out] at hi
  cases t
  · have hi : 0 ≤ i := by simpa using hi
    go_wp2_with fail
    go_ret
    exact ⟨rfl, rfl⟩
  · have hi : i = -1 := by simpa using hi
    subst hi
    go_wp2_with fail
    go_ret
    exact ⟨rfl, rfl⟩
theorem right_any (u : Value) (xs : List Int) (w : World) (h : ReadI w u xs) : Calls Tryd.prog 58 #[u] w fun e w' => e = .returned (.bool (xs.all kindB)) ∧ w = w' := by
  obtain ⟨t, ht⟩ : ∃ t, t = xs.all kindB := ⟨_, rfl⟩
  rw [← ht]
  have HT := Lib.hid ht
  clear ht
  go_enter Tryd.func58, Tryd.ntmps58
  go_wp2_with fail
  refine (contI_any _ xs _ h).mono ?_
  rintro e w' ⟨rfl, rfl⟩
  rw [← HT.out]
  cases t
  · go_wp2_with fail
    go_ret
    exact ⟨rfl, rfl⟩
  · go_wp2_with fail
    go_ret
    exact ⟨rfl, rfl⟩
def mayI (i : In4) : Bool := mayB i.op i.x i.a i.b
theorem codeB_all (c : List In4) : codeB c = c.all mayI := rfl
theorem fmay1_any (op x a b : Int) (w : World) : Calls Tryd.prog 83 #[.agg #[.int .i64 op, .int .u64 x, .int .i64 a, .int .i64 b]] w fun e w' => e = .returned (.bool (!mayI ⟨op, x, a, b⟩)) ∧ Below w.heap.size w w' := by
  unfold mayI
  obtain ⟨t, ht⟩ : ∃ t, t = mayB op x a b := ⟨_, rfl⟩
  simp only
  rw [← ht]
  have HT := Lib.hid ht
  clear ht
  go_enter Tryd.func83, Tryd.ntmps83
  go_wp2_with fail
  refine (may_any op x a b _).mono ?_
  rintro e w' ⟨rfl, hb⟩
  rw [← HT.out]
  have HB := Lib.hid (b_call (b_alloc (Below.refl _ _) _) hb)
  clear hb
  cases t
  · go_wp2_with fail
    go_ret
    exact ⟨rfl, HB.out⟩
  · go_wp2_with fail
    go_ret
    exact ⟨rfl, HB.out⟩
set_option maxHeartbeats 800000 in
theorem idxN_any (u : Value) (xs : List In4) (w : World) (h : ReadR inE w u xs) : Calls Tryd.prog 98 #[u, .func (.func 83) #[] #[]] w (IdxEnd (xs.all mayI) w) := by
  obtain ⟨a, cap, rfl, _⟩ := readR_len h
  have hl : (xs.length : Int) ≤ 9223372036854775807 := by
    obtain ⟨_, _, e, h1, h2, _⟩ := h; have := cap_le h2; omega
  have H := Lib.hid h
  clear h
  go_enter Tryd.func98, Tryd.ntmps98
  go_wp2_with fail
  go_loopw [8] (fun i wr => ∃ k : Nat, k ≤ xs.length ∧ i = .int .i64 k ∧ Hid (Below w.heap.size w wr) ∧ Hid ((xs.take k).all mayI = true)) (fun i _ => xs.length - (intOf i).toNat)
  case atStart => exact ⟨0, Nat.zero_le _, rfl, Below.refl _ _, rfl⟩
  case round =>
    obtain ⟨k, hk, rfl, hb, hp⟩ := hrel
    have k0 : (0 : Int) ≤ k := by omega
    by_cases hlt : k < xs.length
    · obtain ⟨bl, off, cp, e1, r1, r2, hbl, r4⟩ := readR_pos H.out (by omega)
      cases e1
      have k1 : (k : Int) < xs.length := by omega
      have hc := in_cells r4 k hlt
      rw [← (bcell hb.out).1 _ _ hbl, ← (bcell hb.out).1 _ _ hbl, ← (bcell hb.out).1 _ _ hbl, ← (bcell hb.out).1 _ _ hbl] at hc
      have HF : Hid (mayI xs[k] = false → xs.all mayI = false) := fun q => all_false hlt q
      have HT : Hid (mayI xs[k] = true → (xs.take (k + 1)).all mayI = true) := fun q => all_take hlt hp.out q
      generalize xs[k] = x at *
      obtain ⟨iop, ix, ia, ib⟩ := x
      simp only at hc
      obtain ⟨c0, c1, c2, c3⟩ := hc
      clear r4
      go_wp2_with fail
      refine (fmay1_any iop ix ia ib _).mono ?_
      rintro e w' ⟨rfl, hb1⟩
      obtain ⟨t, ht⟩ : ∃ t, t = mayI ⟨iop, ix, ia, ib⟩ := ⟨_, rfl⟩
      rw [← ht]
      have HK := Lib.hid ht
      have HB1 := Lib.hid (b_call hb.out hb1)
      clear ht hb1
      cases t
      · go_wp2_with fail
        go_ret
        exact ⟨_, rfl, Or.inr ⟨HF.out HK.out.symm, k0⟩, HB1.out⟩
      · go_wp2_with fail
        go_roundw
        case rel => exact ⟨k + 1, by omega, by first | rfl | trivial | go_num, HB1.out, HT.out HK.out.symm⟩
        case measure => simp [intOf]; omega
    · have hall : xs.all mayI = true := by have q := hp.out; rw [List.take_of_length_le (by omega)] at q; exact q
      have HALL := Lib.hid hall
      clear hall hp
      go_wp2_with fail
      go_ret
      exact ⟨_, rfl, Or.inl ⟨HALL.out, rfl⟩, hb.out⟩
theorem contN_any (u : Value) (xs : List In4) (w : World) (h : ReadR inE w u xs) : Calls Tryd.prog 82 #[u, .func (.func 83) #[] #[]] w fun e w' => e = .returned (.bool (!(xs.all mayI))) ∧ Below w.heap.size w w' := by
  obtain ⟨t, ht⟩ : ∃ t, t = xs.all mayI := ⟨_, rfl⟩
  rw [← ht]
  have HT := Lib.hid ht
  clear ht
  go_enter Tryd.func82, Tryd.ntmps82
  go_wp2_with fail
  refine (idxN_any _ xs _ h).mono ?_
  rintro e w' ⟨i, rfl, hi, hb⟩
  rw [← HT.out] at hi
  cases t
  · have hi : 0 ≤ i := by simpa using hi
    go_wp2_with fail
    go_ret
    exact ⟨rfl, hb⟩
  · have hi : i = -1 := by simpa using hi
    subst hi
    go_wp2_with fail
    go_ret
    exact ⟨rfl, hb⟩
end Go.Proofs.YtedmjlhgpdeafaaDoor
