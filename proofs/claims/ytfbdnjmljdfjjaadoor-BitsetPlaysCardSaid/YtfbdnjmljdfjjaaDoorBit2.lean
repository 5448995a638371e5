/- Layer 2's rows of bits: the contracts of Next, All, Copy, Count, Same, and of the library's functions below them. Conditions: at most 65536 bits; the library's table as it is laid. -/
import Derived.Test.YtfbdnjmljdfjjaaDoorBit1
import Derived.Test.YtfbdnjmljdfjjaaDoorPop
import Derived.Test.YtfbdnjmljdfjjaaDoorEqI
import Derived.Laws.Bits64b
import Derived.Deep.QuietTactic
namespace Go.Proofs.YtfbdnjmljdfjjaaDoor
open Go.RowKit
set_option linter.unusedVariables false
set_option linter.unusedSimpArgs false
attribute [local go_sem] over_cell over_frozen
/-- The library's table, in its variable. -/
structure TabZ (w : World) : Prop where
  lt : 0 < w.heap.size
  at_ : ∀ j, j < 64 → w.cell? ⟨0, j, none⟩ = some (.int .u8 ((Lib.deBruijn64tab.getD j 0 : Nat) : Int))
theorem tabZ_below {w w' : World} (h : TabZ w) (hb : Below w.heap.size w w') : TabZ w' := ⟨Nat.lt_of_lt_of_le h.lt hb.size, fun j hj => by rw [(bcell hb).1 _ _ h.lt]; exact h.at_ j hj⟩
theorem tz_core (x k idx : Nat) (w : World) (hx0 : ((x : Int) == 0) = false)
    (key : IntKind.u64.wrap (bits BinOp.and IntKind.u64 (x : Int) (IntKind.u64.wrap (-(x : Int))) * 285870213051353865) / 288230376151711744 = (idx : Int))
    (hi : idx < 64) (hk : k < 64) (hcell : w.cell? ⟨0, idx, none⟩ = some (.int .u8 k)) :
    Calls Tryd.prog 21 #[.int .u64 x] w fun e w' => e = .returned (.int .i64 k) ∧ w = w' := by
  go_enter Tryd.func21, Tryd.ntmps21
  go_wp2_with (simp only [key])
  go_ret
  exact ⟨rfl, rfl⟩
theorem tz_key (x a : Nat) (hx : x < 18446744073709551616) (hx0 : x ≠ 0) (hlow : x &&& (18446744073709551616 - x) = a) :
    IntKind.u64.wrap (bits BinOp.and IntKind.u64 (x : Int) (IntKind.u64.wrap (-(x : Int))) * 285870213051353865) / 288230376151711744 = ((a * 285870213051353865 % 18446744073709551616 / 288230376151711744 : Nat) : Int) := by
  have e1 : IntKind.u64.wrap (-(x : Int)) = ((18446744073709551616 - x : Nat) : Int) := by rw [IntKind.wrap_u64]; omega
  rw [e1, bits_and_u64_nat x _ hx (by omega), hlow, IntKind.wrap_u64]
  omega
theorem btz_any (x : Nat) (hx : x < 18446744073709551616) (hx0 : x ≠ 0) {w : World} (hT : TabZ w) : Calls Tryd.prog 21 #[.int .u64 x] w fun e w' => e = .returned (.int .i64 ((Lib.ctz 64 x : Nat) : Int)) ∧ w = w' := by
  obtain ⟨hlow, hk⟩ := Lib.lowest_bit 64 x hx0 hx
  obtain ⟨hi, htab⟩ := Lib.deBruijn64_at _ hk
  have hcell := hT.at_ _ hi
  rw [htab] at hcell
  exact tz_core x _ _ w (by simp; omega) (tz_key x _ hx hx0 hlow) hi hk hcell
theorem bbit_any (b : Bool) (w : World) : Calls Tryd.prog 22 #[.bool b] w fun e w' => e = .returned (.int .i64 (if b then 1 else 0)) ∧ w = w' := by
  cases b
  all_goals
    go_enter Tryd.func22, Tryd.ntmps22
    go_wp2_with fail
    go_ret
    exact ⟨rfl, rfl⟩
theorem not_word (x : Nat) (hx : x < 18446744073709551616) : bits BinOp.xor IntKind.u64 (if IntKind.u64.signed = true then -1 else IntKind.u64.max) ↑x = ((turnW x false : Nat) : Int) := by
  have e : (if IntKind.u64.signed = true then (-1 : Int) else IntKind.u64.max) = ((18446744073709551615 : Nat) : Int) := by decide
  rw [e, bits_xor_u64_nat _ _ (by decide) hx]
  have hl : 18446744073709551615 ^^^ x < 18446744073709551616 := Nat.xor_lt_two_pow (n := 64) (by decide) hx
  congr 1
  apply Nat.eq_of_testBit_eq
  intro s
  rcases Nat.lt_or_ge s 64 with q | q
  · rw [turnW_bit hx false s q, Nat.testBit_xor, show 18446744073709551615 = 2 ^ 64 - 1 by decide, Nat.testBit_two_pow_sub_one, decide_eq_true q]; simp
  · have hp := Nat.pow_le_pow_right (n := 2) (by decide) q
    rw [show (2 : Nat) ^ 64 = 18446744073709551616 by decide] at hp
    rw [Nat.testBit_lt_two_pow (Nat.lt_of_lt_of_le hl hp), Nat.testBit_lt_two_pow (Nat.lt_of_lt_of_le (turnW_lt hx false) hp)]
def NextE (l : List Bool) (v : Bool) (f : Nat) (w : World) (e : Ending) (w' : World) : Prop := e = .returned (.tuple #[.int .i64 (((nextO l v f).getD 0 : Nat) : Int), .bool (nextO l v f).isSome]) ∧ Below w.heap.size w w'
set_option maxRecDepth 100000 in
set_option maxHeartbeats 1000000 in
theorem bnext_from {w : World} {s g cap : Nat} {W : List Nat} {l : List Bool} (h : BitAt w s g cap W l) (hT : TabZ w) (f : Int) (v : Bool) (k0 : Nat) (hf : k0 = f.toNat) :
    Calls Tryd.prog 9 #[sp s, .int .i64 f, .bool v] w (NextE l v k0 w) := by
  have HL := Lib.hid (blen_any h)
  have HB := Lib.hid h
  have HT := Lib.hid hT
  obtain ⟨h0, h1, hf'⟩ := blk2 h.hd
  have nb := h.nb
  have slt := h.hd.1
  have HF := Lib.hid hf
  have hst : (f < 0 ∧ k0 = 0) ∨ (0 ≤ f ∧ f = k0) := by omega
  unfold sp at *
  clear h hT hf
  rcases hst with ⟨q, q0⟩ | ⟨q, rfl⟩
  all_goals
    have Q0 : Hid (k0 = k0) := rfl
    try (have Q1 := Lib.hid q0; clear q0)
    go_enter Tryd.func9, Tryd.ntmps9
    go_wp2_with fail
    go_loop [8] (fun i => ∃ k : Nat, i = .int .i64 k ∧ Hid (nextO l v k0 = nextO l v k)) (fun i => 131200 - (intOf i).toNat)
    case atStart => first | exact ⟨k0, rfl, rfl⟩ | exact ⟨0, rfl, by rw [Q1.out]; rfl⟩
    case round =>
      obtain ⟨k, rfl, hr⟩ := hrel
      by_cases hlt : k < l.length
      · have hj : k / 64 < W.length := by rw [HB.out.bo.len]; omega
        have h2 := words_at HB.out.rw hj
        have Z0 := Lib.hid (word_zero HB.out.bo v k)
        have Z1 := Lib.hid (fun hz => word_hit HB.out.bo v k hz _ rfl)
        have hx := Lib.hid (turnW_lt (HB.out.bo.lt (k / 64)) v)
        have hx2 := Lib.hid (HB.out.bo.lt (k / 64))
        have t64 : k % 64 < 64 := Nat.mod_lt _ (by decide)
        have kb : k / 64 ≤ 1024 := by omega
        have q1 : (k : Int).tdiv 64 = ((k / 64 : Nat) : Int) := by rw [Int.tdiv_eq_ediv_of_nonneg (by omega)]; omega
        have q2 : (k : Int).tmod 64 = ((k % 64 : Nat) : Int) := by rw [Int.tmod_eq_emod_of_nonneg (by omega)]; omega
        have q3 : (k : Int) / 64 = ((k / 64 : Nat) : Int) := by omega
        have q4 : (k : Int) % 64 = ((k % 64 : Nat) : Int) := by omega
        have JK := Lib.hid (show k / 64 * 64 ≤ k ∧ k < (k / 64 + 1) * 64 by omega)
        generalize W.getD (k / 64) 0 = x at *
        generalize k / 64 = j at *
        generalize k % 64 = t at *
        have k1 : (k : Int) < l.length := by omega
        have j0 : (0 : Int) ≤ j := by omega
        have j1 : (j : Int) < W.length := by omega
        have j2 : (j : Int) ≤ 1024 := by omega
        have t0 : (0 : Int) ≤ t := by omega
        have t1 : (t : Int) < 64 := by omega
        clear hlt hj kb t64
        have ZT : Hid (turnW x v / 2 ^ t < 18446744073709551616) := Nat.lt_of_le_of_lt (Nat.div_le_self _ _) hx.out
        have KX := not_word x hx2.out
        have KD : Hid (((turnW x v : Nat) : Int) / 2 ^ t = ((turnW x v / 2 ^ t : Nat) : Int)) := by show _ = _; push_cast; rfl
        obtain ⟨Y, hY⟩ : ∃ Y, Y = turnW x v := ⟨_, rfl⟩
        obtain ⟨z, hz⟩ : ∃ z, z = turnW x v / 2 ^ t := ⟨_, rfl⟩
        rw [← hz] at Z0 Z1 ZT KD
        rw [← hY] at KD
        have KD2 := KD.out
        have HY : Hid (Y = turnW x v) := hY
        have KX2 : bits BinOp.xor IntKind.u64 (if IntKind.u64.signed = true then -1 else IntKind.u64.max) ↑x = ((turnW x false : Nat) : Int) := KX
        clear hY hz KX KD
        obtain ⟨c, hc⟩ : ∃ c, c = Lib.ctz 64 z := ⟨_, rfl⟩
        have BZ := Lib.hid (fun hz => btz_any z ZT.out hz HT.out)
        rw [← hc] at BZ Z1
        have cb : Hid (z ≠ 0 → c < 64) := fun hz => (Z1.out hz).1
        clear hc
        have step : ∀ b, v = b → Hid (v = b) := fun _ h => h
        cases v
        all_goals
          have HY2 := HY.out
          unfold turnW at HY2 KX2
          simp only [if_true, if_false, Bool.false_eq_true] at HY2 KX2
          subst HY2
          clear HY step
          by_cases hz : z = 0
          · subst hz
            have z1 := Z0.out rfl
            have HZ := Lib.hid z1
            clear z1 Z0 Z1 BZ
            go_wp2_with fail
            refine HL.out.mono ?_
            rintro e w1 ⟨rfl, rfl⟩
            go_wp2_with fail
            go_round
            case rel => exact ⟨(j + 1) * 64, by go_num, by show _ = _; rw [hr.out, HZ.out]⟩
            case measure => have := JK.out; simp only [intOf]; omega
          · have z1 := Z1.out hz
            have bz := Lib.hid (BZ.out hz)
            have c1 := z1.1
            have HZ := Lib.hid z1.2
            have t2 : ((z : Int) == 0) = false := by rw [beq_eq_false_iff_ne]; omega
            have c2 : (c : Int) < 64 := by omega
            have c0 : (0 : Int) ≤ c := by omega
            clear z1 Z0 Z1 BZ cb hz c1
            by_cases hkc : k + c < l.length
            · have s1 : (k : Int) + c < l.length := by omega
              rw [if_pos hkc] at HZ
              clear hkc
              go_wp2_with fail
              refine HL.out.mono ?_
              rintro e w1 ⟨rfl, rfl⟩
              go_wp2_with fail
              refine bz.out.mono ?_
              rintro e w1 ⟨rfl, rfl⟩
              go_wp2_with fail
              refine wp_region_over_lit (by kernel_rfl) (by kernel_rfl) ?_
              repeat (quiet_step ((go_at_call 22; exact over_call_same (bbit_any _ _))))
              refine wpQuiet_nil ?_
              intro w1 hb1; replace hb1 := over_elim hb1; obtain ⟨hc1, hf1⟩ := bcell hb1; have hz1 := hb1.size; try simp only [World.size_alloc, World.size_setCell, World.size_drew] at hz1
              go_wp2_with fail
              go_ret2
              unfold NextE
              rw [hr.out, HZ.out]
              exact ⟨by simp; (try (rw [IntKind.wrap_i64])); (try omega); (try decide), hb1⟩
            · have s1 : ¬ ((k : Int) + c < l.length) := by omega
              rw [if_neg hkc] at HZ
              clear hkc
              go_wp2_with fail
              refine HL.out.mono ?_
              rintro e w1 ⟨rfl, rfl⟩
              go_wp2_with fail
              refine bz.out.mono ?_
              rintro e w1 ⟨rfl, rfl⟩
              go_wp2_with fail
              refine wp_region_over_lit (by kernel_rfl) (by kernel_rfl) ?_
              repeat (quiet_step ((go_at_call 22; exact over_call_same (bbit_any _ _))))
              refine wpQuiet_nil ?_
              intro w1 hb1; replace hb1 := over_elim hb1; obtain ⟨hc1, hf1⟩ := bcell hb1; have hz1 := hb1.size; try simp only [World.size_alloc, World.size_setCell, World.size_drew] at hz1
              go_wp2_with fail
              go_ret2
              unfold NextE
              rw [hr.out, HZ.out]
              exact ⟨by simp; (try (rw [IntKind.wrap_i64])); (try omega); (try decide), hb1⟩
      · go_wp2_with fail
        refine HL.out.mono ?_
        rintro e w1 ⟨rfl, rfl⟩
        go_wp2_with fail
        go_ret2
        have e1 := hr.out
        rw [nextO_end (f := k) (by omega)] at e1
        unfold NextE
        rw [e1]
        exact ⟨rfl, Below.refl _ _⟩
theorem bnext_any {w : World} {s g cap : Nat} {W : List Nat} {l : List Bool} (h : BitAt w s g cap W l) (hT : TabZ w) (f : Int) (v : Bool) :
    Calls Tryd.prog 9 #[sp s, .int .i64 f, .bool v] w (NextE l v f.toNat w) := bnext_from h hT f v _ rfl
theorem bnext_nil (f : Int) (v : Bool) (w : World) : Calls Tryd.prog 9 #[.pointer none, .int .i64 f, .bool v] w fun e w' => e = .returned (.tuple #[.int .i64 0, .bool false]) ∧ w = w' := by
  rcases (show f < 0 ∨ 0 ≤ f by omega) with q | q
  all_goals
    go_enter Tryd.func9, Tryd.ntmps9
    go_wp2_with fail
    go_loop [8] (fun i => ∃ k : Int, i = .int .i64 k ∧ 0 ≤ k) (fun i => 0)
    case atStart => first | exact ⟨0, rfl, by omega⟩ | exact ⟨f, rfl, by omega⟩
    case round =>
      obtain ⟨k, rfl, hk⟩ := hrel
      go_wp2_with fail
      refine (blen_nil _).mono ?_
      rintro e w1 ⟨rfl, rfl⟩
      go_wp2_with fail
      go_ret2
      exact ⟨rfl, rfl⟩
theorem wrap_nat (n : Nat) : IntKind.u64.wrap (n : Int) = ((n % 18446744073709551616 : Nat) : Int) := by rw [IntKind.wrap_u64]; omega
theorem and_u64 (X m : Nat) (hX : X < 18446744073709551616) (hm : m < 18446744073709551616) : bits .and .u64 (X : Int) (m : Int) = ((X &&& m : Nat) : Int) := bits_and_u64_nat _ _ hX hm
theorem ones1 (x : Nat) (hx : x < 18446744073709551616) : IntKind.u64.wrap (bits BinOp.and IntKind.u64 (↑x / 2) 6148914691236517205 + bits BinOp.and IntKind.u64 (↑x) 6148914691236517205) = ((q1 8 x : Nat) : Int) ∧ q1 8 x ≤ 12297829382473034410 := by
  have e1 : (x : Int) / 2 = ((x / 2 : Nat) : Int) := by omega
  have h1 := Nat.and_le_right (n := x / 2) (m := 6148914691236517205)
  have h2 := Nat.and_le_right (n := x) (m := 6148914691236517205)
  have e2 : q1 8 x = (x / 2 &&& 6148914691236517205) + (x &&& 6148914691236517205) := by unfold q1; rw [rep8_eq.1]
  rw [e1, show (6148914691236517205 : Int) = ((6148914691236517205 : Nat) : Int) from rfl, and_u64 _ _ (by omega) (by decide), and_u64 _ _ hx (by decide), e2]
  generalize x / 2 &&& 6148914691236517205 = u at *
  generalize x &&& 6148914691236517205 = v at *
  rw [← Int.natCast_add, wrap_nat, Nat.mod_eq_of_lt (by omega)]
  exact ⟨rfl, by omega⟩
theorem ones2 (x : Nat) (hx : x ≤ 12297829382473034410) : IntKind.u64.wrap (bits BinOp.and IntKind.u64 (↑x / 4) 3689348814741910323 + bits BinOp.and IntKind.u64 (↑x) 3689348814741910323) = ((q2 8 x : Nat) : Int) ∧ q2 8 x ≤ 7378697629483820646 := by
  have e1 : (x : Int) / 4 = ((x / 4 : Nat) : Int) := by omega
  have h1 := Nat.and_le_right (n := x / 4) (m := 3689348814741910323)
  have h2 := Nat.and_le_right (n := x) (m := 3689348814741910323)
  have e2 : q2 8 x = (x / 4 &&& 3689348814741910323) + (x &&& 3689348814741910323) := by unfold q2; rw [rep8_eq.2.1]
  rw [e1, show (3689348814741910323 : Int) = ((3689348814741910323 : Nat) : Int) from rfl, and_u64 _ _ (by omega) (by decide), and_u64 _ _ (by omega) (by decide), e2]
  generalize x / 4 &&& 3689348814741910323 = u at *
  generalize x &&& 3689348814741910323 = v at *
  rw [← Int.natCast_add, wrap_nat, Nat.mod_eq_of_lt (by omega)]
  exact ⟨rfl, by omega⟩
theorem ones3 (x : Nat) (hx : x ≤ 7378697629483820646) : bits BinOp.and IntKind.u64 (IntKind.u64.wrap (↑x / 16 + ↑x)) 1085102592571150095 = ((q3 8 x : Nat) : Int) ∧ q3 8 x < 18446744073709551616 := by
  have e1 : (x : Int) / 16 + x = ((x / 16 + x : Nat) : Int) := by omega
  have e2 : q3 8 x = (x / 16 + x) &&& 1085102592571150095 := by unfold q3; rw [rep8_eq.2.2]
  have h1 := Nat.and_le_right (n := x / 16 + x) (m := 1085102592571150095)
  rw [e1, wrap_nat, Nat.mod_eq_of_lt (by omega), show (1085102592571150095 : Int) = ((1085102592571150095 : Nat) : Int) from rfl, and_u64 _ _ (by omega) (by decide), e2]
  exact ⟨rfl, by omega⟩
theorem ones4 (x d : Nat) : IntKind.u64.wrap ((x : Int) + x / d) = (((x + x / d) % 18446744073709551616 : Nat) : Int) := by
  have e1 : (x : Int) + x / d = ((x + x / d : Nat) : Int) := by push_cast; rfl
  rw [e1, wrap_nat]
theorem ones5 (x : Nat) (hx : x < 18446744073709551616) : bits .and .i64 (wrap64 (x : Int)) 127 = ((x % 128 : Nat) : Int) := by
  rw [i64_and127]; unfold wrap64; omega
theorem bones_any (x : Nat) (hx : x < 18446744073709551616) (w : World) : Calls Tryd.prog 27 #[.int .u64 x] w fun e w' => e = .returned (.int .i64 ((pop x : Nat) : Int)) ∧ w = w' := by
  have HF := Lib.hid (pop_fold x hx)
  obtain ⟨o1, b1⟩ := ones1 x hx
  obtain ⟨o2, b2⟩ := ones2 _ b1
  obtain ⟨o3, b3⟩ := ones3 _ b2
  unfold fold8 qq at HF
  dsimp only at HF
  generalize q1 8 x = y1 at *
  generalize q2 8 y1 = y2 at *
  generalize q3 8 y2 = y3 at *
  have o4 : IntKind.u64.wrap ((y3 : Int) + (y3 : Int) / 256) = _ := ones4 y3 256
  have b4 : (y3 + y3 / 256) % 18446744073709551616 < 18446744073709551616 := Nat.mod_lt _ (by decide)
  generalize (y3 + y3 / 256) % 18446744073709551616 = y4 at *
  have o5 : IntKind.u64.wrap ((y4 : Int) + (y4 : Int) / 65536) = _ := ones4 y4 65536
  generalize (y4 + y4 / 65536) % 18446744073709551616 = y5 at *
  have o6 : IntKind.u64.wrap ((y5 : Int) + (y5 : Int) / 4294967296) = _ := ones4 y5 4294967296
  have b6 : (y5 + y5 / 4294967296) % 18446744073709551616 < 18446744073709551616 := Nat.mod_lt _ (by decide)
  generalize (y5 + y5 / 4294967296) % 18446744073709551616 = y6 at *
  have o7 := ones5 y6 b6
  rw [HF.out] at o7
  clear hx b1 b2 b3 b4 b6 HF
  generalize pop x = p at *
  go_enter Tryd.func27, Tryd.ntmps27
  go_wp2_with fail
  go_ret
  exact ⟨rfl, rfl⟩
end Go.Proofs.YtfbdnjmljdfjjaaDoor
