/- Layer 17's objects over an arena: the head, the place of a field; what reads. Conditions: an arena as AreAt says. -/
import Derived.Test.YtgbbnmjfkhconaaObj1
import Derived.Test.YtgbbnmjfkhconaaAreA
namespace Go.Proofs.Ytgbbnmjfkhconaa
open Go.RowKit
set_option linter.unusedVariables false
set_option linter.unusedSimpArgs false
attribute [local go_sem] over_cell over_frozen
def hdR (L : List Int) (a : Int) : Int := getW L a.toNat % 65536
def hdN (L : List Int) (a : Int) : Int := getW L a.toNat / 65536 % 65536
def hdOk (L : List Int) (a : Int) : Bool := decide (wordE L.length a = 0 ∧ okS (hdR L a) (hdN L a) = true ∧ wordS (hdR L a) (hdN L a) = getW L a.toNat ∧ bytS (hdR L a) (hdN L a) ≤ L.length - a)
def headR (L : List Int) (a : Int) : Int := if hdOk L a = true then hdR L a else 0
def headN (L : List Int) (a : Int) : Int := if hdOk L a = true then hdN L a else 0
def headE (L : List Int) (a : Int) : Int := if wordE L.length a = 0 then (if hdOk L a = true then 0 else 4) else wordE L.length a
theorem head_no {L : List Int} {a : Int} (h : ¬ (wordE L.length a = 0 ∧ okS (hdR L a) (hdN L a) = true ∧ wordS (hdR L a) (hdN L a) = getW L a.toNat ∧ bytS (hdR L a) (hdN L a) ≤ L.length - a)) : headR L a = 0 ∧ headN L a = 0 ∧ headE L a = if wordE L.length a = 0 then 4 else wordE L.length a := by
  have e : hdOk L a = false := decide_eq_false h
  unfold headR headN headE
  rw [e]
  exact ⟨rfl, rfl, rfl⟩
theorem head_yes {L : List Int} {a : Int} (h : wordE L.length a = 0 ∧ okS (hdR L a) (hdN L a) = true ∧ wordS (hdR L a) (hdN L a) = getW L a.toNat ∧ bytS (hdR L a) (hdN L a) ≤ L.length - a) : headR L a = hdR L a ∧ headN L a = hdN L a ∧ headE L a = 0 := by
  have e : hdOk L a = true := decide_eq_true h
  unfold headR headN headE
  rw [e, if_pos h.1]
  exact ⟨rfl, rfl, rfl⟩
theorem and_low (x : Int) (h : 0 ≤ x) (h2 : x < 18446744073709551616) : bits BinOp.and IntKind.u64 x 65535 = x % 65536 := by
  obtain ⟨k, rfl⟩ : ∃ k : Nat, x = k := ⟨x.toNat, by omega⟩
  have e := u64_and_nat k 65535 (by omega) (by decide)
  rw [show ((65535 : Nat) : Int) = 65535 from rfl] at e
  rw [e, show (65535 : Nat) = 2 ^ 16 - 1 from rfl, Nat.and_two_pow_sub_one_eq_mod]
  rfl
theorem ohead_nil (a : Int) (w : World) : Calls Try.prog 48 #[.pointer none, .int .i64 a] w fun e w' => e = .returned (.tuple #[shp 0 0, .int .i64 2]) ∧ Below w.heap.size w w' := by
  unfold shp
  go_enter Try.func48, Try.ntmps48
  go_wp2_with fail
  refine (aword_nil _ _).mono ?_
  rintro e w1 ⟨rfl, rfl⟩
  go_wp2_with fail
  exact bodyPost_ret (v := .tuple #[.agg #[.int .i64 0, .int .i64 0], .int .i64 2]) (by simp [results, Try.results48, go_sem]) rfl ⟨rfl, by (repeat' (first | exact Below.refl _ _ | assumption | refine b_alloc ?_ _ | refine b_over ?_ _ | refine b_drew ?_ | refine b_call ?_ (by assumption)))⟩
theorem ohead_any {w : World} {b g cap : Nat} {L : List Int} (h : AreAt w b g cap L) (a : Int) : Calls Try.prog 48 #[tp b, .int .i64 a] w fun e w' => e = .returned (.tuple #[shp (headR L a) (headN L a), .int .i64 (headE L a)]) ∧ Below w.heap.size w w' := by
  have HW := Lib.hid (fun (w1 : World) (h1 : AreAt w1 b g cap L) => aword_any h1 a)
  have HLN := Lib.hid (fun (w1 : World) (h1 : AreAt w1 b g cap L) => alen_any h1)
  have H := Lib.hid h
  have HA := Lib.hid (are_below h (b_alloc (Below.refl _ w) (.cells #[.int .i64 0, .int .i64 0] 25)))
  have hlen := h.mx
  have hle := h.le
  unfold shp tp at *
  by_cases h0 : wordE L.length a = 0
  case neg =>
    obtain ⟨e1, e2, e3⟩ := head_no (L := L) (a := a) (fun q => h0 q.1)
    rw [e1, e2, e3, if_neg h0]
    simp only [if_neg h0] at HW
    have H0 := Lib.hid h0
    generalize wordE L.length a = E at *
    clear h e1 e2 e3
    go_enter Try.func48, Try.ntmps48
    go_wp2_with fail
    refine (HW.out _ HA.out).mono ?_
    rintro e w1 ⟨rfl, rfl⟩
    go_wp2_with fail
    exact bodyPost_ret (v := .tuple #[.agg #[.int .i64 0, .int .i64 0], .int .i64 E]) (by simp [results, Try.results48, go_sem]) rfl ⟨rfl, by (repeat' (first | exact Below.refl _ _ | assumption | refine b_alloc ?_ _ | refine b_over ?_ _ | refine b_drew ?_ | refine b_call ?_ (by assumption)))⟩
  case pos =>
    have hb := getW_lt h.by_ a.toNat
    obtain ⟨k, rfl, h3, h4⟩ : ∃ k : Nat, a = k ∧ k + 8 ≤ L.length ∧ k % 8 = 0 := by
      rcases wordE_cases L.length a with ⟨q, _⟩ | ⟨q, _⟩ | ⟨_, _, k, q, q1, q2⟩
      · omega
      · omega
      · exact ⟨k, q, q1, q2⟩
    have HE := Lib.hid (fun q => head_no (L := L) (a := k) q)
    have HY := Lib.hid (fun q => head_yes (L := L) (a := k) q)
    simp only [h0, if_true, if_pos] at HW HE
    unfold hdR hdN at HE HY
    have a1 := and_low _ hb.1 hb.2
    have a2 := and_low (getW L k / 65536) (by rw [Int.toNat_natCast] at hb; omega) (by rw [Int.toNat_natCast] at hb; omega)
    rw [Int.toNat_natCast] at *
    generalize getW L k = W at *
    obtain ⟨r, hr⟩ : ∃ r, r = W % 65536 := ⟨_, rfl⟩
    obtain ⟨n, hn⟩ : ∃ n, n = W / 65536 % 65536 := ⟨_, rfl⟩
    have r1 : 0 ≤ r ∧ r < 65536 := by omega
    have n1 : 0 ≤ n ∧ n < 65536 := by omega
    rw [← hr] at a1 HE HY
    rw [← hn] at a2 HE HY
    have HB := Lib.hid (fun w => obytes_any r n w)
    unfold shp at HB
    obtain ⟨r1, r2⟩ := r1
    obtain ⟨n1, n2⟩ := n1
    have k0 : (0 : Int) ≤ k := by omega
    have k1 : (k : Int) ≤ L.length := by omega
    clear h hr hn h3 h4
    by_cases ho : okS r n = true
    · have hr15 := (okS_iff r n).1 ho
      have HWD := Lib.hid (fun w => oword_any r n ⟨by omega, by omega, by omega, by omega⟩ w)
      unfold shp at HWD
      have hbS := bytS_bd r n
      rw [ho] at HB
      have x1 := HE.out
      have x2 := HY.out
      generalize bytS r n = m at *
      generalize wordS r n = V at *
      rcases (show V ≠ W ∨ (V = W ∧ (L.length : Int) - k < m) ∨ (V = W ∧ m ≤ L.length - k) by omega) with q | ⟨q, q2⟩ | ⟨q, q2⟩
      case inl =>
        obtain ⟨e1, e2, e3⟩ := x1 (fun z => q z.2.2.1)
        rw [e1, e2, e3]
        clear e1 e2 e3 HE HY h0 ho x1 x2 hr15
        go_enter Try.func48, Try.ntmps48
        go_wp2_with fail
        refine (HW.out _ HA.out).mono ?_
        rintro e w1 ⟨rfl, rfl⟩
        go_wp2_with fail
        refine (HB.out _).mono ?_
        rintro e w1 ⟨rfl, hb1⟩
        obtain ⟨hc1, hf1⟩ := bcell hb1
        have hz1 := hb1.size
        simp only [World.size_alloc] at hz1
        have HA1 := Lib.hid (are_below HA.out (b_call (b_alloc (Below.refl _ _) _) hb1))
        go_wp2_with fail
        refine (HWD.out _).mono ?_
        rintro e w2 ⟨rfl, hb2⟩
        obtain ⟨hc2, hf2⟩ := bcell hb2
        have hz2 := hb2.size
        have l1 : w.heap.size < w1.heap.size := by omega
        have l2 : w.heap.size + 1 < w1.heap.size := by omega
        have c0 : w2.cell? ⟨w.heap.size, 0, none⟩ = some (.int .i64 0) := by
          rw [hc2 _ _ (by omega), hc1 _ _ (by simp only [World.size_alloc]; omega)]; go_simp
        have c1 : w2.cell? ⟨w.heap.size, 1, none⟩ = some (.int .i64 0) := by
          rw [hc2 _ _ (by omega), hc1 _ _ (by simp only [World.size_alloc]; omega)]; go_simp
        go_wp2_with fail
        exact bodyPost_ret (v := .tuple #[.agg #[.int .i64 0, .int .i64 0], .int .i64 4]) (by simp [results, Try.results48, go_sem, c0, c1]) rfl ⟨rfl, b_set (b_set (b_call (b_call (b_alloc (b_alloc (Below.refl _ w) _) _) hb1) hb2) (Nat.le_refl _) _) (Nat.le_refl _) _⟩
      case inr.inl =>
        obtain ⟨e1, e2, e3⟩ := x1 (fun z => by omega)
        rw [e1, e2, e3]
        subst q
        clear e1 e2 e3 HE HY h0 ho x1 x2 hr15
        go_enter Try.func48, Try.ntmps48
        go_wp2_with fail
        refine (HW.out _ HA.out).mono ?_
        rintro e w1 ⟨rfl, rfl⟩
        go_wp2_with fail
        refine (HB.out _).mono ?_
        rintro e w1 ⟨rfl, hb1⟩
        obtain ⟨hc1, hf1⟩ := bcell hb1
        have hz1 := hb1.size
        simp only [World.size_alloc] at hz1
        have HA1 := Lib.hid (are_below HA.out (b_call (b_alloc (Below.refl _ _) _) hb1))
        go_wp2_with fail
        refine (HWD.out _).mono ?_
        rintro e w2 ⟨rfl, hb2⟩
        obtain ⟨hc2, hf2⟩ := bcell hb2
        have hz2 := hb2.size
        have l1 : w.heap.size < w1.heap.size := by omega
        have l2 : w.heap.size + 1 < w1.heap.size := by omega
        have c0 : w2.cell? ⟨w.heap.size, 0, none⟩ = some (.int .i64 0) := by
          rw [hc2 _ _ (by omega), hc1 _ _ (by simp only [World.size_alloc]; omega)]; go_simp
        have c1 : w2.cell? ⟨w.heap.size, 1, none⟩ = some (.int .i64 0) := by
          rw [hc2 _ _ (by omega), hc1 _ _ (by simp only [World.size_alloc]; omega)]; go_simp
        go_wp2_with fail
        refine (HLN.out _ (are_below HA1.out hb2)).mono ?_
        rintro e w3 ⟨rfl, rfl⟩
        go_wp2_with fail
        exact bodyPost_ret (v := .tuple #[.agg #[.int .i64 0, .int .i64 0], .int .i64 4]) (by simp [results, Try.results48, go_sem, c0, c1]) rfl ⟨rfl, b_set (b_set (b_call (b_call (b_alloc (b_alloc (Below.refl _ w) _) _) hb1) hb2) (Nat.le_refl _) _) (Nat.le_refl _) _⟩
      case inr.inr =>
        obtain ⟨e1, e2, e3⟩ := x2 ⟨h0, ho, q, q2⟩
        rw [e1, e2, e3]
        subst q
        clear e1 e2 e3 HE HY h0 ho x1 x2 hr15
        go_enter Try.func48, Try.ntmps48
        go_wp2_with fail
        refine (HW.out _ HA.out).mono ?_
        rintro e w1 ⟨rfl, rfl⟩
        go_wp2_with fail
        refine (HB.out _).mono ?_
        rintro e w1 ⟨rfl, hb1⟩
        obtain ⟨hc1, hf1⟩ := bcell hb1
        have hz1 := hb1.size
        simp only [World.size_alloc] at hz1
        have HA1 := Lib.hid (are_below HA.out (b_call (b_alloc (Below.refl _ _) _) hb1))
        go_wp2_with fail
        refine (HWD.out _).mono ?_
        rintro e w2 ⟨rfl, hb2⟩
        obtain ⟨hc2, hf2⟩ := bcell hb2
        have hz2 := hb2.size
        have l1 : w.heap.size < w1.heap.size := by omega
        have l2 : w.heap.size + 1 < w1.heap.size := by omega
        have c0 : w2.cell? ⟨w.heap.size, 0, none⟩ = some (.int .i64 0) := by
          rw [hc2 _ _ (by omega), hc1 _ _ (by simp only [World.size_alloc]; omega)]; go_simp
        have c1 : w2.cell? ⟨w.heap.size, 1, none⟩ = some (.int .i64 0) := by
          rw [hc2 _ _ (by omega), hc1 _ _ (by simp only [World.size_alloc]; omega)]; go_simp
        go_wp2_with fail
        refine (HLN.out _ (are_below HA1.out hb2)).mono ?_
        rintro e w3 ⟨rfl, rfl⟩
        go_wp2_with fail
        exact bodyPost_ret (v := .tuple #[.agg #[.int .i64 r, .int .i64 n], .int .i64 0]) (by simp [results, Try.results48, go_sem, c0, c1]) rfl ⟨rfl, b_set (b_set (b_call (b_call (b_alloc (b_alloc (Below.refl _ w) _) _) hb1) hb2) (Nat.le_refl _) _) (Nat.le_refl _) _⟩
    · obtain ⟨e1, e2, e3⟩ := HE.out (fun q => ho q.2.1)
      rw [e1, e2, e3]
      have ho2 : okS r n = false := by simpa using ho
      rw [ho2] at HB
      clear e1 e2 e3 HE HY h0 ho ho2
      go_enter Try.func48, Try.ntmps48
      go_wp2_with fail
      refine (HW.out _ HA.out).mono ?_
      rintro e w1 ⟨rfl, rfl⟩
      go_wp2_with fail
      refine (HB.out _).mono ?_
      rintro e w1 ⟨rfl, hb1⟩
      obtain ⟨hc1, hf1⟩ := bcell hb1
      have hz1 := hb1.size
      simp only [World.size_alloc] at hz1
      have c0 : w1.cell? ⟨w.heap.size, 0, none⟩ = some (.int .i64 0) := by
        rw [hc1 _ _ (by simp only [World.size_alloc]; omega)]; go_simp
      have c1 : w1.cell? ⟨w.heap.size, 1, none⟩ = some (.int .i64 0) := by
        rw [hc1 _ _ (by simp only [World.size_alloc]; omega)]; go_simp
      go_wp2_with fail
      exact bodyPost_ret (v := .tuple #[.agg #[.int .i64 0, .int .i64 0], .int .i64 4]) (by simp [results, Try.results48, go_sem, c0, c1]) rfl ⟨rfl, b_set (b_set (b_call (b_alloc (b_alloc (Below.refl _ w) _) _) hb1) (Nat.le_refl _) _) (Nat.le_refl _) _⟩
end Go.Proofs.Ytgbbnmjfkhconaa
