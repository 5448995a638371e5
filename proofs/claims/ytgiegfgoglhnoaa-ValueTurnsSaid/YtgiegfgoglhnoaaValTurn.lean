/- ValueTurns, walked. Conditions: the numbers are of their kinds. -/
import Derived.Test.YtgiegfgoglhnoaaVal9
import Derived.Deep.DeepCutAuto
import Derived.Deep.CutBlock
namespace Go.Proofs.Ytgiegfgoglhnoaa
open Go.RowKit
set_option linter.unusedVariables false
set_option linter.unusedSimpArgs false
theorem xor_back {A B : Int} (hA : U64 A) (hB : U64 B) : U64 (bits .xor .u64 A B) ∧ bits .xor .u64 (bits .xor .u64 A B) B = A := by
  obtain ⟨a1, a2⟩ := hA
  obtain ⟨b1, b2⟩ := hB
  obtain ⟨a, rfl⟩ := Int.eq_ofNat_of_zero_le a1
  obtain ⟨b, rfl⟩ := Int.eq_ofNat_of_zero_le b1
  have ha : a < 18446744073709551616 := by omega
  have hb : b < 18446744073709551616 := by omega
  have hx : a ^^^ b < 18446744073709551616 := Nat.xor_lt_two_pow (n := 64) ha hb
  rw [u64_xor_nat a b ha hb]
  refine ⟨⟨by omega, by omega⟩, ?_⟩
  rw [u64_xor_nat (a ^^^ b) b hx hb, Nat.xor_assoc, Nat.xor_self, Nat.xor_zero]
theorem xor_neg {c : Nat} (hc : c < 18446744073709551616) : bits .xor .u64 (c : Int) 9223372036854775808 = ((negN c : Nat) : Int) := u64_xor_nat c 9223372036854775808 hc (by omega)
set_option maxHeartbeats 1000000 in
theorem valueTurns_nat (a b : Int) (f : Nat) (w : World) (ha : -9223372036854775808 ≤ a ∧ a ≤ 9223372036854775807) (hb : -9223372036854775808 ≤ b ∧ b ≤ 9223372036854775807) (hf : f < 18446744073709551616) : Calls Try.prog 9 #[.int .i64 a, .int .i64 b, .int .u64 (f : Nat)] w fun e w' => e = .returned (.bool true) ∧ Below w.heap.size w w' := by
  have lc := canon_lt hf
  have hc := canon_canon f
  obtain ⟨c, hcf⟩ : ∃ c, c = canon f := ⟨_, rfl⟩
  rw [← hcf] at lc hc
  obtain ⟨A, hA⟩ : ∃ A, A = IntKind.u64.wrap a := ⟨_, rfl⟩
  obtain ⟨B, hB⟩ : ∃ B, B = IntKind.u64.wrap b := ⟨_, rfl⟩
  have uA : U64 A := by rw [hA]; exact u64_in'
  have uB : U64 B := by rw [hB]; exact u64_in'
  obtain ⟨ux, xb⟩ := xor_back uA uB
  have S1 := Lib.hid (fun w => binary_any 0 0 A 0 B w uA uB)
  have S2 := Lib.hid (fun w => binary_any 1 0 (uM (A + B)) 0 B w (uM_in _) uB)
  have S3 := Lib.hid (fun w => binary_any 7 0 A 0 B w uA uB)
  have S4 := Lib.hid (fun w => binary_any 7 0 (bits .xor .u64 A B) 0 B w ux uB)
  have r1 : Hid (retBin (binO 0 0 A 0 B) = .tuple #[valV 0 (uM (A + B)), .int .i64 0]) := Lib.hid (by rw [bin_int (by decide)]; rfl)
  have r2 : Hid (retBin (binO 1 0 (uM (A + B)) 0 B) = .tuple #[valV 0 A, .int .i64 0]) := Lib.hid (by
    rw [bin_int (by decide), show intBad 1 B = false from rfl, show intO 1 (uM (A + B)) B = uM (uM (A + B) - B) from rfl, show uM (uM (A + B) - B) = A by have := uA; unfold U64 at this; unfold uM; omega]; rfl)
  have r3 : Hid (retBin (binO 7 0 A 0 B) = .tuple #[valV 0 (bits .xor .u64 A B), .int .i64 0]) := Lib.hid (by rw [bin_int (by decide)]; rfl)
  have r4 : Hid (retBin (binO 7 0 (bits .xor .u64 A B) 0 B) = .tuple #[valV 0 A, .int .i64 0]) := Lib.hid (by
    rw [bin_int (by decide), show intBad 7 B = false from rfl, show intO 7 (bits .xor .u64 A B) B = bits .xor .u64 (bits .xor .u64 A B) B from rfl, xb]; rfl)
  obtain ⟨an, han⟩ := Int.eq_ofNat_of_zero_le uA.1
  obtain ⟨nn, hnn⟩ := Int.eq_ofNat_of_zero_le (uM_in (-A)).1
  have U1 := Lib.hid (fun w => by have h := unary0 an w (by have := uA.2; omega); rw [← han] at h; exact h)
  have U2 := Lib.hid (fun w => unary0 nn w (by have := (uM_in (-A)).2; omega))
  have e1 : Hid (uM (-A) = (nn : Int)) := Lib.hid hnn
  have e2 : Hid (uM (-(nn : Int)) = A) := Lib.hid (by rw [← hnn]; have := uA; unfold U64 at this; unfold uM; omega)
  have U3 := Lib.hid (fun w => unary2 c w lc)
  have U4 := Lib.hid (fun w => unary2 (canon (negN c)) w (canon_lt (negN_lt lc)))
  have e4 : Hid (canon (negN (canon (canon (negN c)))) = c) := Lib.hid (by
    rw [canon_canon]
    cases hn : isNan c with
    | true =>
      rw [canon_nan (show isNan (negN c) = true by rw [isNan_neg lc]; exact hn), canon_nan (show isNan (negN nanW) = true by decide)]
      rw [← hc, canon_nan hn]
    | false =>
      rw [canon_of (show isNan (negN c) = false by rw [isNan_neg lc]; exact hn), negN_negN, hc])
  have e3 : Hid (isNan c = true ∨ (isNan c = false ∧ ((canon (negN c) : Nat) : Int) = bits .xor .u64 (c : Int) 9223372036854775808)) := Lib.hid (by
    cases hn : isNan c with
    | true => exact Or.inl rfl
    | false => exact Or.inr ⟨rfl, by rw [xor_neg lc, canon_of (by rw [isNan_neg lc]; exact hn)]⟩)
  have KC := Lib.hid (fun w => kind_any c w lc)
  have kz : Hid ((kindO c == 0) = isNan c) := Lib.hid (kind_zero c)
  have HC := Lib.hid hc
  have HCF := Lib.hid hcf
  have HA := Lib.hid hA
  have HBB := Lib.hid hB
  have HAN := Lib.hid han
  clear uA uB ux xb lc hc hcf hA hB hf ha hb han hnn
  obtain ⟨X, hX⟩ : ∃ X, X = bits .xor .u64 A B := ⟨_, rfl⟩
  rw [← hX] at S4 r3 r4
  obtain ⟨T, hT⟩ : ∃ T, T = uM (A + B) := ⟨_, rfl⟩
  rw [← hT] at S2 r1 r2
  clear hX hT
  obtain ⟨u, hu⟩ : ∃ u, u = canon (negN c) := ⟨_, rfl⟩
  rw [← hu] at e3 e4 U4
  have HU := Lib.hid hu
  clear hu
  go_enter Try.func9, Try.ntmps9
  go_wp2_with fail
  refine (ofInt_any _ _).mono ?_
  rintro e w1 ⟨rfl, hb1⟩
  have hB1 := hb1
  clear hb1
  rw [← HA.out]
  go_wp2_with fail
  refine (ofInt_any _ _).mono ?_
  rintro e w2 ⟨rfl, hb2⟩
  have hB2 := b_call hB1 hb2
  clear hb2
  rw [← HBB.out]
  go_wp2_with fail
  refine (float_any f _).mono ?_
  rintro e w3 ⟨rfl, rfl⟩
  rw [← HCF.out]
  go_wp2_with fail
  refine (ofFloat_any _ _).mono ?_
  rintro e w4 ⟨rfl, hb4⟩
  have hB4 := b_call hB2 hb4
  clear hb4
  rw [HC.out]
  unfold valV
  go_wp2_with fail
  have XX := blk_alloc (blk_alloc (blk_new w4 #[.int .i64 0, .int .u64 A] 25) (.cells #[.int .i64 0, .int .u64 B] 25)) (.cells #[.int .i64 1, .int .u64 (c : Nat)] 25)
  have XY := blk_alloc (blk_new (w4.alloc (.cells #[.int .i64 0, .int .u64 A] 25)) #[.int .i64 0, .int .u64 B] 25) (.cells #[.int .i64 1, .int .u64 (c : Nat)] 25)
  have XZ := blk_new ((w4.alloc (.cells #[.int .i64 0, .int .u64 A] 25)).alloc (.cells #[.int .i64 0, .int .u64 B] 25)) #[.int .i64 1, .int .u64 (c : Nat)] 25
  simp only [World.size_alloc] at XX XY XZ
  have hP := b_alloc (b_alloc (b_alloc hB4 (.cells #[.int .i64 0, .int .u64 A] 25)) (.cells #[.int .i64 0, .int .u64 B] 25)) (.cells #[.int .i64 1, .int .u64 (c : Nat)] 25)
  refine (S1.out _).mono ?_
  rintro e w5 ⟨rfl, hb5⟩
  replace XX := blk_below XX hb5
  replace XY := blk_below XY hb5
  replace XZ := blk_below XZ hb5
  have hB5 := b_call hP hb5
  clear hb5
  rw [r1.out]
  unfold valV
  obtain ⟨p0, q0, f0⟩ := blk2 XY
  have y0 := XY.1
  go_wp2_with fail
  refine (S2.out _).mono ?_
  rintro e w6 ⟨rfl, hb6⟩
  replace XX := blk_below (blk_alloc XX (.cells #[.int .i64 0, .int .u64 T] 25)) hb6
  replace XY := blk_below (blk_alloc XY (.cells #[.int .i64 0, .int .u64 T] 25)) hb6
  replace XZ := blk_below (blk_alloc XZ (.cells #[.int .i64 0, .int .u64 T] 25)) hb6
  have XS := blk_born hb6
  have hB6 := b_call (b_alloc hB5 (.cells #[.int .i64 0, .int .u64 T] 25)) hb6
  clear hb6
  rw [r2.out]
  unfold valV
  clear p0 q0 f0 y0
  obtain ⟨p0, q0, f0⟩ := blk2 XX
  have y0 := XX.1
  obtain ⟨p1, q1, f1⟩ := blk2 XY
  have y1 := XY.1
  go_wp2_with fail
  refine (S3.out _).mono ?_
  rintro e w7 ⟨rfl, hb7⟩
  replace XX := blk_below (blk_alloc XX (.cells #[.int .i64 0, .int .u64 A] 25)) hb7
  replace XY := blk_below (blk_alloc XY (.cells #[.int .i64 0, .int .u64 A] 25)) hb7
  replace XZ := blk_below (blk_alloc XZ (.cells #[.int .i64 0, .int .u64 A] 25)) hb7
  replace XS := blk_below (blk_alloc XS (.cells #[.int .i64 0, .int .u64 A] 25)) hb7
  have XD := blk_born hb7
  have hB7 := b_call (b_alloc hB6 (.cells #[.int .i64 0, .int .u64 A] 25)) hb7
  clear hb7
  rw [r3.out]
  unfold valV
  clear p0 q0 f0 y0 p1 q1 f1 y1
  obtain ⟨p0, q0, f0⟩ := blk2 XY
  have y0 := XY.1
  go_wp2_with fail
  refine (S4.out _).mono ?_
  rintro e w8 ⟨rfl, hb8⟩
  replace XX := blk_below (blk_alloc XX (.cells #[.int .i64 0, .int .u64 X] 25)) hb8
  replace XY := blk_below (blk_alloc XY (.cells #[.int .i64 0, .int .u64 X] 25)) hb8
  replace XZ := blk_below (blk_alloc XZ (.cells #[.int .i64 0, .int .u64 X] 25)) hb8
  replace XS := blk_below (blk_alloc XS (.cells #[.int .i64 0, .int .u64 X] 25)) hb8
  replace XD := blk_below (blk_alloc XD (.cells #[.int .i64 0, .int .u64 X] 25)) hb8
  have XP := blk_born hb8
  have hB8 := b_call (b_alloc hB7 (.cells #[.int .i64 0, .int .u64 X] 25)) hb8
  clear hb8
  rw [r4.out]
  unfold valV
  clear p0 q0 f0 y0
  obtain ⟨p0, q0, f0⟩ := blk2 XX
  have y0 := XX.1
  go_wp2_with fail
  refine (U1.out _).mono ?_
  rintro e w9 ⟨rfl, hb9⟩
  replace XX := blk_below (blk_alloc XX (.cells #[.int .i64 0, .int .u64 A] 25)) hb9
  replace XY := blk_below (blk_alloc XY (.cells #[.int .i64 0, .int .u64 A] 25)) hb9
  replace XZ := blk_below (blk_alloc XZ (.cells #[.int .i64 0, .int .u64 A] 25)) hb9
  replace XS := blk_below (blk_alloc XS (.cells #[.int .i64 0, .int .u64 A] 25)) hb9
  replace XD := blk_below (blk_alloc XD (.cells #[.int .i64 0, .int .u64 A] 25)) hb9
  replace XP := blk_below (blk_alloc XP (.cells #[.int .i64 0, .int .u64 A] 25)) hb9
  have XQ := blk_born hb9
  have hB9 := b_call (b_alloc hB8 (.cells #[.int .i64 0, .int .u64 A] 25)) hb9
  clear hb9
  rw [e1.out]
  unfold valV
  clear p0 q0 f0 y0
  go_wp2_with fail
  refine (U2.out _).mono ?_
  rintro e w10 ⟨rfl, hb10⟩
  replace XX := blk_below (blk_alloc XX (.cells #[.int .i64 0, .int .u64 (nn : Nat)] 25)) hb10
  replace XY := blk_below (blk_alloc XY (.cells #[.int .i64 0, .int .u64 (nn : Nat)] 25)) hb10
  replace XZ := blk_below (blk_alloc XZ (.cells #[.int .i64 0, .int .u64 (nn : Nat)] 25)) hb10
  replace XS := blk_below (blk_alloc XS (.cells #[.int .i64 0, .int .u64 (nn : Nat)] 25)) hb10
  replace XD := blk_below (blk_alloc XD (.cells #[.int .i64 0, .int .u64 (nn : Nat)] 25)) hb10
  replace XP := blk_below (blk_alloc XP (.cells #[.int .i64 0, .int .u64 (nn : Nat)] 25)) hb10
  replace XQ := blk_below (blk_alloc XQ (.cells #[.int .i64 0, .int .u64 (nn : Nat)] 25)) hb10
  have XN := blk_born hb10
  have hB10 := b_call (b_alloc hB9 (.cells #[.int .i64 0, .int .u64 (nn : Nat)] 25)) hb10
  clear hb10
  rw [e2.out]
  unfold valV
  obtain ⟨p0, q0, f0⟩ := blk2 XZ
  have y0 := XZ.1
  go_wp2_with fail
  refine (U3.out _).mono ?_
  rintro e w11 ⟨rfl, hb11⟩
  replace XX := blk_below (blk_alloc XX (.cells #[.int .i64 0, .int .u64 A] 25)) hb11
  replace XY := blk_below (blk_alloc XY (.cells #[.int .i64 0, .int .u64 A] 25)) hb11
  replace XZ := blk_below (blk_alloc XZ (.cells #[.int .i64 0, .int .u64 A] 25)) hb11
  replace XS := blk_below (blk_alloc XS (.cells #[.int .i64 0, .int .u64 A] 25)) hb11
  replace XD := blk_below (blk_alloc XD (.cells #[.int .i64 0, .int .u64 A] 25)) hb11
  replace XP := blk_below (blk_alloc XP (.cells #[.int .i64 0, .int .u64 A] 25)) hb11
  replace XQ := blk_below (blk_alloc XQ (.cells #[.int .i64 0, .int .u64 A] 25)) hb11
  replace XN := blk_below (blk_alloc XN (.cells #[.int .i64 0, .int .u64 A] 25)) hb11
  have XM := blk_born hb11
  have hB11 := b_call (b_alloc hB10 (.cells #[.int .i64 0, .int .u64 A] 25)) hb11
  clear hb11
  rw [HC.out, ← HU.out]
  unfold valV
  clear p0 q0 f0 y0
  go_wp2_with fail
  refine (U4.out _).mono ?_
  rintro e w12 ⟨rfl, hb12⟩
  replace XX := blk_below (blk_alloc XX (.cells #[.int .i64 1, .int .u64 (u : Nat)] 25)) hb12
  replace XY := blk_below (blk_alloc XY (.cells #[.int .i64 1, .int .u64 (u : Nat)] 25)) hb12
  replace XZ := blk_below (blk_alloc XZ (.cells #[.int .i64 1, .int .u64 (u : Nat)] 25)) hb12
  replace XS := blk_below (blk_alloc XS (.cells #[.int .i64 1, .int .u64 (u : Nat)] 25)) hb12
  replace XD := blk_below (blk_alloc XD (.cells #[.int .i64 1, .int .u64 (u : Nat)] 25)) hb12
  replace XP := blk_below (blk_alloc XP (.cells #[.int .i64 1, .int .u64 (u : Nat)] 25)) hb12
  replace XQ := blk_below (blk_alloc XQ (.cells #[.int .i64 1, .int .u64 (u : Nat)] 25)) hb12
  replace XN := blk_below (blk_alloc XN (.cells #[.int .i64 1, .int .u64 (u : Nat)] 25)) hb12
  replace XM := blk_below (blk_alloc XM (.cells #[.int .i64 1, .int .u64 (u : Nat)] 25)) hb12
  have XU := blk_born hb12
  have hB12 := b_call (b_alloc hB11 (.cells #[.int .i64 1, .int .u64 (u : Nat)] 25)) hb12
  clear hb12
  rw [e4.out]
  unfold valV
  obtain ⟨p0, q0, f0⟩ := blk2 XZ
  have y0 := XZ.1
  go_wp2_with fail
  refine (float64_any _ c _).mono ?_
  rintro e w13 ⟨rfl, hb13⟩
  replace XX := blk_below (blk_alloc XX (.cells #[.int .i64 1, .int .u64 (c : Nat)] 25)) hb13
  replace XY := blk_below (blk_alloc XY (.cells #[.int .i64 1, .int .u64 (c : Nat)] 25)) hb13
  replace XZ := blk_below (blk_alloc XZ (.cells #[.int .i64 1, .int .u64 (c : Nat)] 25)) hb13
  replace XS := blk_below (blk_alloc XS (.cells #[.int .i64 1, .int .u64 (c : Nat)] 25)) hb13
  replace XD := blk_below (blk_alloc XD (.cells #[.int .i64 1, .int .u64 (c : Nat)] 25)) hb13
  replace XP := blk_below (blk_alloc XP (.cells #[.int .i64 1, .int .u64 (c : Nat)] 25)) hb13
  replace XQ := blk_below (blk_alloc XQ (.cells #[.int .i64 1, .int .u64 (c : Nat)] 25)) hb13
  replace XN := blk_below (blk_alloc XN (.cells #[.int .i64 1, .int .u64 (c : Nat)] 25)) hb13
  replace XM := blk_below (blk_alloc XM (.cells #[.int .i64 1, .int .u64 (c : Nat)] 25)) hb13
  replace XU := blk_below (blk_alloc XU (.cells #[.int .i64 1, .int .u64 (c : Nat)] 25)) hb13
  have XV := blk_born hb13
  have hB13 := b_call (b_alloc hB12 (.cells #[.int .i64 1, .int .u64 (c : Nat)] 25)) hb13
  clear hb13
  rw [HC.out]
  clear p0 q0 f0 y0
  obtain ⟨p0, q0, f0⟩ := blk2 XZ
  have y0 := XZ.1
  obtain ⟨p1, q1, f1⟩ := blk2 XU
  have y1 := XU.1
  go_wp2_with fail
  refine (KC.out _).mono ?_
  rintro e w14 ⟨rfl, rfl⟩
  have k0 := kz.out
  rcases e3.out with hn | ⟨hn, hx⟩
  · rw [hn] at k0
    have k1 : (kindO c != 0) = false := by rw [bne, k0]; rfl
    clear hn k0
    obtain ⟨d0, d1, df⟩ := blk2 XD
    obtain ⟨x0, x1, xf⟩ := blk2 XX
    obtain ⟨j0, j1, jf⟩ := blk2 XQ
    obtain ⟨m0, m1, mf⟩ := blk2 XM
    obtain ⟨v0, v1, vf⟩ := blk2 XV
    go_wp2_with fail
    refine (awake23 _).mono ?_
    rintro e w30 ⟨rfl, hb30⟩
    go_wp2_with fail
    go_ret
    exact ⟨rfl, b_call hB13 hb30⟩
  · rw [hn] at k0
    have k1 : (kindO c != 0) = true := by rw [bne, k0]; rfl
    have hx2 := hx.symm
    clear hn k0 hx
    obtain ⟨d0, d1, df⟩ := blk2 XD
    obtain ⟨x0, x1, xf⟩ := blk2 XX
    obtain ⟨j0, j1, jf⟩ := blk2 XQ
    obtain ⟨m0, m1, mf⟩ := blk2 XM
    obtain ⟨v0, v1, vf⟩ := blk2 XV
    go_wp2_with fail
    refine (awake23 _).mono ?_
    rintro e w30 ⟨rfl, hb30⟩
    go_wp2_with fail
    go_ret
    exact ⟨rfl, b_call hB13 hb30⟩
theorem valueTurns_any (a b f : Int) (w : World) (ha : -9223372036854775808 ≤ a ∧ a ≤ 9223372036854775807) (hb : -9223372036854775808 ≤ b ∧ b ≤ 9223372036854775807) (hf : 0 ≤ f ∧ f ≤ 18446744073709551615) : Calls Try.prog 9 #[.int .i64 a, .int .i64 b, .int .u64 f] w fun e w' => e = .returned (.bool true) ∧ Below w.heap.size w w' := by
  obtain ⟨n, rfl⟩ := Int.eq_ofNat_of_zero_le hf.1
  exact valueTurns_nat a b n w ha hb (by omega)
end Go.Proofs.Ytgiegfgoglhnoaa
