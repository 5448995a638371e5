/- ValueEdges, walked. Conditions: the numbers are of their kinds. -/
import Derived.Test.YtgiegfgoglhnoaaVal9
import Derived.Deep.DeepCutAuto
import Derived.Deep.CutBlock
namespace Go.Proofs.Ytgiegfgoglhnoaa
open Go.RowKit
set_option linter.unusedVariables false
set_option linter.unusedSimpArgs false
theorem ltB_total (a b : Nat) : totalO b a = -totalO a b := by
  unfold totalO
  rcases Int.lt_trichotomy (kindO a) (kindO b) with h | h | h
  · rw [if_neg (show ¬ kindO b < kindO a by omega), if_pos h, if_pos h]; rfl
  · rw [if_neg (show ¬ kindO b < kindO a by omega), if_neg (show ¬ kindO a < kindO b by omega), if_neg (show ¬ kindO a < kindO b by omega), if_neg (show ¬ kindO b < kindO a by omega)]
    cases h1 : ltB a b with
    | true => rw [ltB_asymm h1]; rfl
    | false => cases h2 : ltB b a <;> rfl
  · rw [if_pos h, if_neg (show ¬ kindO a < kindO b by omega), if_pos h]
theorem abs_sign (c : Nat) : ((canon (c % 9223372036854775808) : Nat) : Int) / 9223372036854775808 = 0 := by
  unfold canon nanW
  split <;> omega
attribute [local go_sem] over_cell over_frozen
theorem float64_c (k : Int) (b : Nat) (w : World) (h : canon b = b) : Calls Try.prog 24 #[.agg #[.int .i64 k, .int .u64 (b : Nat)]] w fun e w' => e = .returned (.float .f64 b) ∧ Below w.heap.size w w' := by
  have := float64_any k b w
  rw [h] at this
  exact this
theorem kind_nanW : kindO nanW = 0 := by decide
theorem edges_nan (a b : Nat) (w : World) (ha : a < 18446744073709551616) (hb : b < 18446744073709551616) (hn : isNan (canon a) = true ∨ isNan (canon b) = true) : Calls Try.prog 8 #[.int .u64 (a : Nat), .int .u64 (b : Nat)] w fun e w' => e = .returned (.bool true) ∧ Below w.heap.size w w' := by
  have lc := canon_lt ha
  have ld := canon_lt hb
  have hc := canon_canon a
  have hd := canon_canon b
  obtain ⟨c, hca⟩ : ∃ c, c = canon a := ⟨_, rfl⟩
  obtain ⟨d, hdb⟩ : ∃ d, d = canon b := ⟨_, rfl⟩
  rw [← hca] at lc hc hn
  rw [← hdb] at ld hd hn
  have mi := flo_min lc ld
  have ma := flo_max lc ld
  have S1 := Lib.hid (fun w => binary_any 18 1 (c : Nat) 1 (d : Nat) w ⟨by omega, by omega⟩ ⟨by omega, by omega⟩)
  have S2 := Lib.hid (fun w => binary_any 19 1 (c : Nat) 1 (d : Nat) w ⟨by omega, by omega⟩ ⟨by omega, by omega⟩)
  have R1 : retBin (binO 18 1 (c : Nat) 1 (d : Nat)) = .tuple #[valV 1 (floO 18 c d : Nat), .int .i64 0] := by rw [bin_flo (by decide), hc, hd]; rfl
  have R2 : retBin (binO 19 1 (c : Nat) 1 (d : Nat)) = .tuple #[valV 1 (floO 19 c d : Nat), .int .i64 0] := by rw [bin_flo (by decide), hc, hd]; rfl
  have U6 := Lib.hid (fun w => unary6 c w lc)
  have U7 := Lib.hid (fun w => unary7 c w lc)
  have U3 := Lib.hid (fun w => unary3 c w lc)
  have hs := abs_sign c
  obtain ⟨s, hs'⟩ : ∃ s, s = canon (c % 9223372036854775808) := ⟨_, rfl⟩
  rw [← hs'] at hs
  have HS := Lib.hid hs'
  have s1 : ((s : Int) / 9223372036854775808 != 0) = false := by rw [hs]; rfl
  have KC := Lib.hid (fun w => kind_any c w lc)
  have KD := Lib.hid (fun w => kind_any d w ld)
  have zc := Lib.hid (kind_zero c)
  have zd := Lib.hid (kind_zero d)
  have HC := Lib.hid hc; have HD := Lib.hid hd; have HCA := Lib.hid hca; have HDB := Lib.hid hdb
  clear hs' hs hc hd hca hdb
  rw [mi, if_pos hn] at R1
  rw [ma, if_pos hn] at R2
  obtain ⟨lo, hlo⟩ : ∃ lo, lo = nanW := ⟨_, rfl⟩
  obtain ⟨hi, hhi⟩ : ∃ hi, hi = nanW := ⟨_, rfl⟩
  rw [← hlo] at R1
  rw [← hhi] at R2
  have KL := Lib.hid (fun w => kind_any lo w (by rw [hlo]; decide))
  have KH := Lib.hid (fun w => kind_any hi w (by rw [hhi]; decide))
  have cl : Hid (canon lo = lo) := Lib.hid (by rw [hlo]; decide)
  have ch : Hid (canon hi = hi) := Lib.hid (by rw [hhi]; decide)
  have kl : Hid (kindO lo = 0) := Lib.hid (by rw [hlo]; exact kind_nanW)
  have kh : Hid (kindO hi = 0) := Lib.hid (by rw [hhi]; exact kind_nanW)
  replace R1 := Lib.hid R1
  replace R2 := Lib.hid R2
  clear mi ma hlo hhi lc ld ha hb
  go_enter Try.func8, Try.ntmps8
  go_wp2_with fail
  refine (float_any a _).mono ?_
  rintro e w1 ⟨rfl, rfl⟩
  rw [← HCA.out]
  go_wp2_with fail
  refine (ofFloat_any _ _).mono ?_
  rintro e w2 ⟨rfl, hb2⟩
  have hB2 := hb2
  clear hb2
  rw [HC.out]
  go_wp2_with fail
  refine (float_any b _).mono ?_
  rintro e w3 ⟨rfl, rfl⟩
  rw [← HDB.out]
  go_wp2_with fail
  refine (ofFloat_any _ _).mono ?_
  rintro e w4 ⟨rfl, hb4⟩
  have hB4 := b_call hB2 hb4
  clear hb4
  rw [HD.out]
  unfold valV
  go_wp2_with fail
  have XX := blk_alloc (blk_new w4 #[.int .i64 1, .int .u64 (c : Nat)] 25) (.cells #[.int .i64 1, .int .u64 (d : Nat)] 25)
  have XY := blk_new (w4.alloc (.cells #[.int .i64 1, .int .u64 (c : Nat)] 25)) #[.int .i64 1, .int .u64 (d : Nat)] 25
  simp only [World.size_alloc] at XX XY
  have hP := b_alloc (b_alloc hB4 (.cells #[.int .i64 1, .int .u64 (c : Nat)] 25)) (.cells #[.int .i64 1, .int .u64 (d : Nat)] 25)
  refine (S1.out _).mono ?_
  rintro e w5 ⟨rfl, hb5⟩
  replace XX := blk_below XX hb5
  replace XY := blk_below XY hb5
  have hB5 := b_call hP hb5
  clear hb5
  rw [R1.out]
  unfold valV
  obtain ⟨p0, q0, f0⟩ := blk2 XX
  have y0 := XX.1
  obtain ⟨p1, q1, f1⟩ := blk2 XY
  have y1 := XY.1
  go_wp2_with fail
  refine (S2.out _).mono ?_
  rintro e w6 ⟨rfl, hb6⟩
  replace XX := blk_below (blk_alloc XX (.cells #[.int .i64 1, .int .u64 (lo : Nat)] 25)) hb6
  replace XY := blk_below (blk_alloc XY (.cells #[.int .i64 1, .int .u64 (lo : Nat)] 25)) hb6
  have XL := blk_born hb6
  have hB6 := b_call (b_alloc hB5 (.cells #[.int .i64 1, .int .u64 (lo : Nat)] 25)) hb6
  clear hb6
  rw [R2.out]
  unfold valV
  clear p0 q0 f0 y0 p1 q1 f1 y1
  obtain ⟨p0, q0, f0⟩ := blk2 XX
  have y0 := XX.1
  go_wp2_with fail
  refine (U6.out _).mono ?_
  rintro e w7 ⟨rfl, hb7⟩
  replace XX := blk_below (blk_alloc XX (.cells #[.int .i64 1, .int .u64 (hi : Nat)] 25)) hb7
  replace XY := blk_below (blk_alloc XY (.cells #[.int .i64 1, .int .u64 (hi : Nat)] 25)) hb7
  replace XL := blk_below (blk_alloc XL (.cells #[.int .i64 1, .int .u64 (hi : Nat)] 25)) hb7
  have XH := blk_born hb7
  have hB7 := b_call (b_alloc hB6 (.cells #[.int .i64 1, .int .u64 (hi : Nat)] 25)) hb7
  clear hb7
  rw [HC.out]
  unfold valV
  clear p0 q0 f0 y0
  go_wp2_with fail
  refine (U7.out _).mono ?_
  rintro e w8 ⟨rfl, hb8⟩
  replace XX := blk_below (blk_alloc XX (.cells #[.int .i64 0, .int .u64 (c : Nat)] 25)) hb8
  replace XY := blk_below (blk_alloc XY (.cells #[.int .i64 0, .int .u64 (c : Nat)] 25)) hb8
  replace XL := blk_below (blk_alloc XL (.cells #[.int .i64 0, .int .u64 (c : Nat)] 25)) hb8
  replace XH := blk_below (blk_alloc XH (.cells #[.int .i64 0, .int .u64 (c : Nat)] 25)) hb8
  have XI := blk_born hb8
  have hB8 := b_call (b_alloc hB7 (.cells #[.int .i64 0, .int .u64 (c : Nat)] 25)) hb8
  clear hb8
  rw [HC.out]
  unfold valV
  obtain ⟨p0, q0, f0⟩ := blk2 XX
  have y0 := XX.1
  go_wp2_with fail
  refine (U3.out _).mono ?_
  rintro e w9 ⟨rfl, hb9⟩
  replace XX := blk_below (blk_alloc XX (.cells #[.int .i64 1, .int .u64 (c : Nat)] 25)) hb9
  replace XY := blk_below (blk_alloc XY (.cells #[.int .i64 1, .int .u64 (c : Nat)] 25)) hb9
  replace XL := blk_below (blk_alloc XL (.cells #[.int .i64 1, .int .u64 (c : Nat)] 25)) hb9
  replace XH := blk_below (blk_alloc XH (.cells #[.int .i64 1, .int .u64 (c : Nat)] 25)) hb9
  replace XI := blk_below (blk_alloc XI (.cells #[.int .i64 1, .int .u64 (c : Nat)] 25)) hb9
  have XF := blk_born hb9
  have hB9 := b_call (b_alloc hB8 (.cells #[.int .i64 1, .int .u64 (c : Nat)] 25)) hb9
  clear hb9
  rw [HC.out, ← HS.out]
  unfold valV
  clear p0 q0 f0 y0
  obtain ⟨p0, q0, f0⟩ := blk2 XX
  have y0 := XX.1
  obtain ⟨p1, q1, f1⟩ := blk2 XF
  have y1 := XF.1
  go_wp2_with fail
  refine (float64_any _ c _).mono ?_
  rintro e w10 ⟨rfl, hb10⟩
  replace XX := blk_below (blk_alloc XX (.cells #[.int .i64 1, .int .u64 (s : Nat)] 25)) hb10
  replace XY := blk_below (blk_alloc XY (.cells #[.int .i64 1, .int .u64 (s : Nat)] 25)) hb10
  replace XL := blk_below (blk_alloc XL (.cells #[.int .i64 1, .int .u64 (s : Nat)] 25)) hb10
  replace XH := blk_below (blk_alloc XH (.cells #[.int .i64 1, .int .u64 (s : Nat)] 25)) hb10
  replace XI := blk_below (blk_alloc XI (.cells #[.int .i64 1, .int .u64 (s : Nat)] 25)) hb10
  replace XF := blk_below (blk_alloc XF (.cells #[.int .i64 1, .int .u64 (s : Nat)] 25)) hb10
  have XS := blk_born hb10
  have hB10 := b_call (b_alloc hB9 (.cells #[.int .i64 1, .int .u64 (s : Nat)] 25)) hb10
  clear hb10
  rw [HC.out]
  clear p0 q0 f0 y0 p1 q1 f1 y1
  obtain ⟨p0, q0, f0⟩ := blk2 XY
  have y0 := XY.1
  obtain ⟨p1, q1, f1⟩ := blk2 XL
  have y1 := XL.1
  obtain ⟨p2, q2, f2⟩ := blk2 XH
  have y2 := XH.1
  go_wp2_with fail
  refine (KC.out _).mono ?_
  rintro e w11 ⟨rfl, rfl⟩
  have z0 := zc.out
  rcases (show isNan c = true ∨ (isNan c = false ∧ isNan d = true) by cases q : isNan c with | true => exact Or.inl rfl | false => (rw [q] at hn; rcases hn with h | h; cases h; exact Or.inr ⟨rfl, h⟩)) with hcn | ⟨hcn, hdn⟩
  · rw [hcn] at z0
    clear hcn hn
    go_wp2_with fail
    refine (float64_any _ lo _).mono ?_
    rintro e w20 ⟨rfl, hb20⟩
    rw [cl.out]
    obtain ⟨g0, g1, gf⟩ := blk2 (blk_below XH hb20)
    go_wp2_with fail
    refine (KL.out _).mono ?_
    rintro e w21 ⟨rfl, rfl⟩
    rw [kl.out]
    go_wp2_with fail
    refine (float64_any _ hi _).mono ?_
    rintro e w22 ⟨rfl, hb22⟩
    rw [ch.out]
    go_wp2_with fail
    refine (KH.out _).mono ?_
    rintro e w23 ⟨rfl, rfl⟩
    rw [kh.out]
    go_wp2_with fail
    refine (awake23 _).mono ?_
    rintro e w24 ⟨rfl, hb24⟩
    go_wp2_with fail
    go_ret
    exact ⟨rfl, b_call (b_call (b_call hB10 hb20) hb22) hb24⟩
  · rw [hcn] at z0
    have z1 := zd.out
    rw [hdn] at z1
    clear hcn hdn hn
    go_wp2_with fail
    refine (float64_any _ d _).mono ?_
    rintro e w19 ⟨rfl, hb19⟩
    rw [HD.out]
    replace XL := blk_below XL hb19
    replace XH := blk_below XH hb19
    obtain ⟨j0, j1, jf⟩ := blk2 XL
    go_wp2_with fail
    refine (KD.out _).mono ?_
    rintro e w18 ⟨rfl, rfl⟩
    go_wp2_with fail
    refine (float64_any _ lo _).mono ?_
    rintro e w20 ⟨rfl, hb20⟩
    rw [cl.out]
    obtain ⟨g0, g1, gf⟩ := blk2 (blk_below XH hb20)
    go_wp2_with fail
    refine (KL.out _).mono ?_
    rintro e w21 ⟨rfl, rfl⟩
    rw [kl.out]
    go_wp2_with fail
    refine (float64_any _ hi _).mono ?_
    rintro e w22 ⟨rfl, hb22⟩
    rw [ch.out]
    go_wp2_with fail
    refine (KH.out _).mono ?_
    rintro e w23 ⟨rfl, rfl⟩
    rw [kh.out]
    go_wp2_with fail
    refine (awake23 _).mono ?_
    rintro e w24 ⟨rfl, hb24⟩
    go_wp2_with fail
    go_ret
    exact ⟨rfl, b_call (b_call (b_call (b_call hB10 hb19) hb20) hb22) hb24⟩
set_option maxHeartbeats 2000000 in
theorem edges_num (a b : Nat) (w : World) (ha : a < 18446744073709551616) (hb : b < 18446744073709551616) (hna : isNan (canon a) = false) (hnb : isNan (canon b) = false) : Calls Try.prog 8 #[.int .u64 (a : Nat), .int .u64 (b : Nat)] w fun e w' => e = .returned (.bool true) ∧ Below w.heap.size w w' := by
  have lc := canon_lt ha
  have ld := canon_lt hb
  have hc := canon_canon a
  have hd := canon_canon b
  obtain ⟨c, hca⟩ : ∃ c, c = canon a := ⟨_, rfl⟩
  obtain ⟨d, hdb⟩ : ∃ d, d = canon b := ⟨_, rfl⟩
  rw [← hca] at lc hc hna
  rw [← hdb] at ld hd hnb
  have mi := flo_min lc ld
  have ma := flo_max lc ld
  have S1 := Lib.hid (fun w => binary_any 18 1 (c : Nat) 1 (d : Nat) w ⟨by omega, by omega⟩ ⟨by omega, by omega⟩)
  have S2 := Lib.hid (fun w => binary_any 19 1 (c : Nat) 1 (d : Nat) w ⟨by omega, by omega⟩ ⟨by omega, by omega⟩)
  have R1 : retBin (binO 18 1 (c : Nat) 1 (d : Nat)) = .tuple #[valV 1 (floO 18 c d : Nat), .int .i64 0] := by rw [bin_flo (by decide), hc, hd]; rfl
  have R2 : retBin (binO 19 1 (c : Nat) 1 (d : Nat)) = .tuple #[valV 1 (floO 19 c d : Nat), .int .i64 0] := by rw [bin_flo (by decide), hc, hd]; rfl
  have U6 := Lib.hid (fun w => unary6 c w lc)
  have U7 := Lib.hid (fun w => unary7 c w lc)
  have U3 := Lib.hid (fun w => unary3 c w lc)
  have hs := abs_sign c
  obtain ⟨s, hs'⟩ : ∃ s, s = canon (c % 9223372036854775808) := ⟨_, rfl⟩
  rw [← hs'] at hs
  have HS := Lib.hid hs'
  have s1 : ((s : Int) / 9223372036854775808 != 0) = false := by rw [hs]; rfl
  have KC := Lib.hid (fun w => kind_any c w lc)
  have KD := Lib.hid (fun w => kind_any d w ld)
  have zc := Lib.hid (kind_zero c)
  have zd := Lib.hid (kind_zero d)
  have HC := Lib.hid hc; have HD := Lib.hid hd; have HCA := Lib.hid hca; have HDB := Lib.hid hdb
  clear hs' hs hc hd hca hdb
  rw [mi, if_neg (by rw [hna, hnb]; simp)] at R1
  rw [ma, if_neg (by rw [hna, hnb]; simp)] at R2
  have z0 := zc.out
  have z1 := zd.out
  rw [hna] at z0
  rw [hnb] at z1
  have tt := ltB_total c d
  obtain ⟨lo, hi, R1', R2', hlh, hcl, hch, hle, ll, lh⟩ : ∃ lo hi, retBin (binO 18 1 (c : Nat) 1 (d : Nat)) = .tuple #[valV 1 (lo : Nat), .int .i64 0] ∧ retBin (binO 19 1 (c : Nat) 1 (d : Nat)) = .tuple #[valV 1 (hi : Nat), .int .i64 0] ∧ ((lo = c ∧ hi = d) ∨ (lo ≠ c ∧ lo = d ∧ hi = c)) ∧ canon lo = lo ∧ canon hi = hi ∧ totalO lo hi ≤ 0 ∧ lo < 18446744073709551616 ∧ hi < 18446744073709551616 := by
    by_cases q : totalO c d < 0
    · rw [if_pos q] at R1 R2
      exact ⟨c, d, R1, R2, Or.inl ⟨rfl, rfl⟩, HC.out, HD.out, by omega, lc, ld⟩
    · rw [if_neg q] at R1 R2
      refine ⟨d, c, R1, R2, ?_, HD.out, HC.out, by omega, ld, lc⟩
      by_cases e : d = c
      · exact Or.inl ⟨e, e.symm⟩
      · exact Or.inr ⟨e, rfl, rfl⟩
  have TT := Lib.hid (fun w => total_any lo hi w ll lh)
  have cl := Lib.hid hcl
  have ch := Lib.hid hch
  have dle : decide (totalO lo hi ≤ 0) = true := decide_eq_true hle
  have HLH := Lib.hid hlh
  clear R1 R2 mi ma tt hna hnb hlh hcl hch hle ll lh lc ld ha hb
  have R1 := Lib.hid R1'
  have R2 := Lib.hid R2'
  clear R1' R2'
  go_enter Try.func8, Try.ntmps8
  go_wp2_with fail
  refine (float_any a _).mono ?_
  rintro e w1 ⟨rfl, rfl⟩
  rw [← HCA.out]
  go_wp2_with fail
  refine (ofFloat_any _ _).mono ?_
  rintro e w2 ⟨rfl, hb2⟩
  have hB2 := hb2
  clear hb2
  rw [HC.out]
  go_wp2_with fail
  refine (float_any b _).mono ?_
  rintro e w3 ⟨rfl, rfl⟩
  rw [← HDB.out]
  go_wp2_with fail
  refine (ofFloat_any _ _).mono ?_
  rintro e w4 ⟨rfl, hb4⟩
  have hB4 := b_call hB2 hb4
  clear hb4
  rw [HD.out]
  unfold valV
  go_wp2_with fail
  have XX := blk_alloc (blk_new w4 #[.int .i64 1, .int .u64 (c : Nat)] 25) (.cells #[.int .i64 1, .int .u64 (d : Nat)] 25)
  have XY := blk_new (w4.alloc (.cells #[.int .i64 1, .int .u64 (c : Nat)] 25)) #[.int .i64 1, .int .u64 (d : Nat)] 25
  simp only [World.size_alloc] at XX XY
  have hP := b_alloc (b_alloc hB4 (.cells #[.int .i64 1, .int .u64 (c : Nat)] 25)) (.cells #[.int .i64 1, .int .u64 (d : Nat)] 25)
  refine (S1.out _).mono ?_
  rintro e w5 ⟨rfl, hb5⟩
  replace XX := blk_below XX hb5
  replace XY := blk_below XY hb5
  have hB5 := b_call hP hb5
  clear hb5
  rw [R1.out]
  unfold valV
  obtain ⟨p0, q0, f0⟩ := blk2 XX
  have y0 := XX.1
  obtain ⟨p1, q1, f1⟩ := blk2 XY
  have y1 := XY.1
  go_wp2_with fail
  refine (S2.out _).mono ?_
  rintro e w6 ⟨rfl, hb6⟩
  replace XX := blk_below (blk_alloc XX (.cells #[.int .i64 1, .int .u64 (lo : Nat)] 25)) hb6
  replace XY := blk_below (blk_alloc XY (.cells #[.int .i64 1, .int .u64 (lo : Nat)] 25)) hb6
  have XL := blk_born hb6
  have hB6 := b_call (b_alloc hB5 (.cells #[.int .i64 1, .int .u64 (lo : Nat)] 25)) hb6
  clear hb6
  rw [R2.out]
  unfold valV
  clear p0 q0 f0 y0 p1 q1 f1 y1
  obtain ⟨p0, q0, f0⟩ := blk2 XX
  have y0 := XX.1
  go_wp2_with fail
  refine (U6.out _).mono ?_
  rintro e w7 ⟨rfl, hb7⟩
  replace XX := blk_below (blk_alloc XX (.cells #[.int .i64 1, .int .u64 (hi : Nat)] 25)) hb7
  replace XY := blk_below (blk_alloc XY (.cells #[.int .i64 1, .int .u64 (hi : Nat)] 25)) hb7
  replace XL := blk_below (blk_alloc XL (.cells #[.int .i64 1, .int .u64 (hi : Nat)] 25)) hb7
  have XH := blk_born hb7
  have hB7 := b_call (b_alloc hB6 (.cells #[.int .i64 1, .int .u64 (hi : Nat)] 25)) hb7
  clear hb7
  rw [HC.out]
  unfold valV
  clear p0 q0 f0 y0
  go_wp2_with fail
  refine (U7.out _).mono ?_
  rintro e w8 ⟨rfl, hb8⟩
  replace XX := blk_below (blk_alloc XX (.cells #[.int .i64 0, .int .u64 (c : Nat)] 25)) hb8
  replace XY := blk_below (blk_alloc XY (.cells #[.int .i64 0, .int .u64 (c : Nat)] 25)) hb8
  replace XL := blk_below (blk_alloc XL (.cells #[.int .i64 0, .int .u64 (c : Nat)] 25)) hb8
  replace XH := blk_below (blk_alloc XH (.cells #[.int .i64 0, .int .u64 (c : Nat)] 25)) hb8
  have XI := blk_born hb8
  have hB8 := b_call (b_alloc hB7 (.cells #[.int .i64 0, .int .u64 (c : Nat)] 25)) hb8
  clear hb8
  rw [HC.out]
  unfold valV
  obtain ⟨p0, q0, f0⟩ := blk2 XX
  have y0 := XX.1
  go_wp2_with fail
  refine (U3.out _).mono ?_
  rintro e w9 ⟨rfl, hb9⟩
  replace XX := blk_below (blk_alloc XX (.cells #[.int .i64 1, .int .u64 (c : Nat)] 25)) hb9
  replace XY := blk_below (blk_alloc XY (.cells #[.int .i64 1, .int .u64 (c : Nat)] 25)) hb9
  replace XL := blk_below (blk_alloc XL (.cells #[.int .i64 1, .int .u64 (c : Nat)] 25)) hb9
  replace XH := blk_below (blk_alloc XH (.cells #[.int .i64 1, .int .u64 (c : Nat)] 25)) hb9
  replace XI := blk_below (blk_alloc XI (.cells #[.int .i64 1, .int .u64 (c : Nat)] 25)) hb9
  have XF := blk_born hb9
  have hB9 := b_call (b_alloc hB8 (.cells #[.int .i64 1, .int .u64 (c : Nat)] 25)) hb9
  clear hb9
  rw [HC.out, ← HS.out]
  unfold valV
  clear p0 q0 f0 y0
  obtain ⟨p0, q0, f0⟩ := blk2 XX
  have y0 := XX.1
  obtain ⟨p1, q1, f1⟩ := blk2 XF
  have y1 := XF.1
  go_wp2_with fail
  refine (float64_any _ c _).mono ?_
  rintro e w10 ⟨rfl, hb10⟩
  replace XX := blk_below (blk_alloc XX (.cells #[.int .i64 1, .int .u64 (s : Nat)] 25)) hb10
  replace XY := blk_below (blk_alloc XY (.cells #[.int .i64 1, .int .u64 (s : Nat)] 25)) hb10
  replace XL := blk_below (blk_alloc XL (.cells #[.int .i64 1, .int .u64 (s : Nat)] 25)) hb10
  replace XH := blk_below (blk_alloc XH (.cells #[.int .i64 1, .int .u64 (s : Nat)] 25)) hb10
  replace XI := blk_below (blk_alloc XI (.cells #[.int .i64 1, .int .u64 (s : Nat)] 25)) hb10
  replace XF := blk_below (blk_alloc XF (.cells #[.int .i64 1, .int .u64 (s : Nat)] 25)) hb10
  have XS := blk_born hb10
  have hB10 := b_call (b_alloc hB9 (.cells #[.int .i64 1, .int .u64 (s : Nat)] 25)) hb10
  clear hb10
  rw [HC.out]
  clear p0 q0 f0 y0 p1 q1 f1 y1
  obtain ⟨p0, q0, f0⟩ := blk2 XY
  have y0 := XY.1
  obtain ⟨p1, q1, f1⟩ := blk2 XL
  have y1 := XL.1
  obtain ⟨p2, q2, f2⟩ := blk2 XH
  have y2 := XH.1
  go_wp2_with fail
  refine (KC.out _).mono ?_
  rintro e w11 ⟨rfl, rfl⟩
  go_wp2_with fail
  refine (float64_any _ d _).mono ?_
  rintro e w19 ⟨rfl, hb19⟩
  rw [HD.out]
  replace XL := blk_below XL hb19
  replace XH := blk_below XH hb19
  replace XX := blk_below XX hb19
  replace XY := blk_below XY hb19
  have hB19 := b_call hB10 hb19
  clear hb19
  go_wp2_with fail
  refine (KD.out _).mono ?_
  rintro e w18 ⟨rfl, rfl⟩
  rcases HLH.out with ⟨rfl, rfl⟩ | ⟨hne, rfl, rfl⟩
  · have H8 : Hid (∀ w', Below w19.heap.size w19 w' → (w'.cell? ⟨w4.heap.size, 0, none⟩ = some (.int .i64 1) ∧ w'.cell? ⟨w4.heap.size, 1, none⟩ = some (.int .u64 (lo : Nat)) ∧ w'.cell? ⟨w4.heap.size + 1, 0, none⟩ = some (.int .i64 1) ∧ w'.cell? ⟨w4.heap.size + 1, 1, none⟩ = some (.int .u64 (hi : Nat)) ∧ w'.cell? ⟨w5.heap.size, 0, none⟩ = some (.int .i64 1) ∧ w'.cell? ⟨w5.heap.size, 1, none⟩ = some (.int .u64 (lo : Nat)) ∧ w'.cell? ⟨w6.heap.size, 0, none⟩ = some (.int .i64 1) ∧ w'.cell? ⟨w6.heap.size, 1, none⟩ = some (.int .u64 (hi : Nat)))) := Lib.hid (fun w' hb => by
      obtain ⟨p0, p1, _⟩ := blk2 (blk_below XX hb)
      obtain ⟨q0, q1, _⟩ := blk2 (blk_below XY hb)
      obtain ⟨r0, r1, _⟩ := blk2 (blk_below XL hb)
      obtain ⟨t0, t1, _⟩ := blk2 (blk_below XH hb)
      exact ⟨p0, p1, q0, q1, r0, r1, t0, t1⟩)
    obtain ⟨p0, p1, q0, q1, r0, r1, t0, t1⟩ := H8.out _ (Below.refl _ _)
    have y1 := XX.1
    have y2 := XY.1
    have y3 := XL.1
    have y4 := XH.1
    go_upto_region 11 with fail
    refine wp_region_over_lit (by kernel_rfl) (by kernel_rfl) ?_
    repeat (first | go_big_quiet_step ((first | (go_at_call 24; exact over_call (float64_c _ _ _ (by first | exact cl.out | exact ch.out))) | (go_at_call 28; exact over_call_same (TT.out _)) | (go_at_call 16; exact over_call (awake23 _)))) | quiet_step ((first | (go_at_call 24; exact over_call (float64_c _ _ _ (by first | exact cl.out | exact ch.out))) | (go_at_call 28; exact over_call_same (TT.out _)) | (go_at_call 16; exact over_call (awake23 _)))))
    refine wpQuiet_nil ?_
    intro w30 hb30; replace hb30 := over_elim hb30; obtain ⟨hc30, hf30⟩ := bcell hb30; have hz30 := hb30.size; try simp only [World.size_alloc, World.size_setCell, World.size_drew] at hz30
    go_wp2
    go_ret
    exact ⟨rfl, b_call hB19 hb30⟩
  · have H8 : Hid (∀ w', Below w19.heap.size w19 w' → (w'.cell? ⟨w4.heap.size, 0, none⟩ = some (.int .i64 1) ∧ w'.cell? ⟨w4.heap.size, 1, none⟩ = some (.int .u64 (hi : Nat)) ∧ w'.cell? ⟨w4.heap.size + 1, 0, none⟩ = some (.int .i64 1) ∧ w'.cell? ⟨w4.heap.size + 1, 1, none⟩ = some (.int .u64 (lo : Nat)) ∧ w'.cell? ⟨w5.heap.size, 0, none⟩ = some (.int .i64 1) ∧ w'.cell? ⟨w5.heap.size, 1, none⟩ = some (.int .u64 (lo : Nat)) ∧ w'.cell? ⟨w6.heap.size, 0, none⟩ = some (.int .i64 1) ∧ w'.cell? ⟨w6.heap.size, 1, none⟩ = some (.int .u64 (hi : Nat)))) := Lib.hid (fun w' hb => by
      obtain ⟨p0, p1, _⟩ := blk2 (blk_below XX hb)
      obtain ⟨q0, q1, _⟩ := blk2 (blk_below XY hb)
      obtain ⟨r0, r1, _⟩ := blk2 (blk_below XL hb)
      obtain ⟨t0, t1, _⟩ := blk2 (blk_below XH hb)
      exact ⟨p0, p1, q0, q1, r0, r1, t0, t1⟩)
    have g1 : ((lo : Int) == (hi : Int)) = false := beq_false_of_ne (by omega)
    obtain ⟨p0, p1, q0, q1, r0, r1, t0, t1⟩ := H8.out _ (Below.refl _ _)
    have y1 := XX.1
    have y2 := XY.1
    have y3 := XL.1
    have y4 := XH.1
    go_upto_region 11 with fail
    refine wp_region_over_lit (by kernel_rfl) (by kernel_rfl) ?_
    repeat (first | go_big_quiet_step ((first | (go_at_call 24; exact over_call (float64_c _ _ _ (by first | exact cl.out | exact ch.out))) | (go_at_call 28; exact over_call_same (TT.out _)) | (go_at_call 16; exact over_call (awake23 _)))) | quiet_step ((first | (go_at_call 24; exact over_call (float64_c _ _ _ (by first | exact cl.out | exact ch.out))) | (go_at_call 28; exact over_call_same (TT.out _)) | (go_at_call 16; exact over_call (awake23 _)))))
    refine wpQuiet_nil ?_
    intro w30 hb30; replace hb30 := over_elim hb30; obtain ⟨hc30, hf30⟩ := bcell hb30; have hz30 := hb30.size; try simp only [World.size_alloc, World.size_setCell, World.size_drew] at hz30
    go_wp2
    go_ret
    exact ⟨rfl, b_call hB19 hb30⟩
theorem valueEdges_any (a b : Int) (w : World) (ha : 0 ≤ a ∧ a ≤ 18446744073709551615) (hb : 0 ≤ b ∧ b ≤ 18446744073709551615) : Calls Try.prog 8 #[.int .u64 a, .int .u64 b] w fun e w' => e = .returned (.bool true) ∧ Below w.heap.size w w' := by
  obtain ⟨n, rfl⟩ := Int.eq_ofNat_of_zero_le ha.1
  obtain ⟨m, rfl⟩ := Int.eq_ofNat_of_zero_le hb.1
  cases h1 : isNan (canon n) with
  | true => exact edges_nan n m w (by omega) (by omega) (Or.inl h1)
  | false =>
    cases h2 : isNan (canon m) with
    | true => exact edges_nan n m w (by omega) (by omega) (Or.inr h2)
    | false => exact edges_num n m w (by omega) (by omega) h1 h2
end Go.Proofs.Ytgiegfgoglhnoaa
