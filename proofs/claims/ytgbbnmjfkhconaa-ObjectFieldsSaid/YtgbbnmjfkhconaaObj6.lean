/- Layer 17's objects over a list of bytes (the document's): Head. Conditions: a row as RowAt says. -/
import Derived.Test.YtgbbnmjfkhconaaObj5
import Derived.Test.YtgbbnmjfkhconaaAreY
namespace Go.Proofs.Ytgbbnmjfkhconaa
open Go.RowKit
set_option linter.unusedVariables false
set_option linter.unusedSimpArgs false
attribute [local go_sem] over_cell over_frozen
def Mt (L : List Int) (k : Nat) (r n : Int) : Prop := wordS r n = getW L k ∧ inB L.length k (bytS r n) = true
theorem wordS_back {r n W : Int} (h : 0 ≤ r ∧ 0 ≤ n ∧ r + n ≤ 15) (e : wordS r n = W) : W % 65536 = r ∧ W / 65536 % 65536 = n := by
  unfold wordS at e; omega
theorem mt_yes {L : List Int} {k : Nat} (h0 : wordE L.length k = 0) (h8 : k + 8 ≤ L.length) {r n : Int} (h : 0 ≤ r ∧ 0 ≤ n ∧ r + n ≤ 15) (m : Mt L k r n) : headR L k = r ∧ headN L k = n ∧ headE L k = 0 := by
  obtain ⟨m1, m2⟩ := m
  obtain ⟨b1, b2⟩ := wordS_back h m1
  have e1 : hdR L k = r := by unfold hdR; rw [Int.toNat_natCast]; exact b1
  have e2 : hdN L k = n := by unfold hdN; rw [Int.toNat_natCast]; exact b2
  have m3 : inE L.length k (bytS r n) = 0 := of_decide_eq_true m2
  have q := head_yes (L := L) (a := k) (by
    rw [e1, e2, Int.toNat_natCast]
    refine ⟨h0, (okS_yes h).1, m1, ?_⟩
    unfold inE at m3
    by_cases hq : 0 ≤ (k : Int) ∧ 0 ≤ bytS r n ∧ bytS r n ≤ L.length ∧ (k : Int) ≤ L.length - bytS r n
    · omega
    · rw [if_neg hq] at m3; omega)
  rw [e1, e2] at q
  exact q
theorem mt_no {L : List Int} {k : Nat} (h0 : wordE L.length k = 0) (h8 : k + 8 ≤ L.length) (h : ∀ r n : Int, 0 ≤ r → 0 ≤ n → r + n ≤ 15 → ¬ Mt L k r n) : headR L k = 0 ∧ headN L k = 0 ∧ headE L k = 4 := by
  have q := head_no (L := L) (a := k) (fun ⟨_, h1, h2, h3⟩ => by
    have h4 := (okS_iff _ _).1 h1
    refine h _ _ h4.1 h4.2.1 h4.2.2 ⟨by rw [h2, Int.toNat_natCast], ?_⟩
    have := bytS_bd (hdR L k) (hdN L k)
    exact decide_eq_true (if_pos (by omega)))
  rw [if_pos h0] at q
  exact q
theorem rhead_any {w : World} {g cap : Nat} {L : List Int} (h : RowAt w g cap L) (a : Int) : Calls Try.prog 83 #[rowV g L cap, .int .i64 a] w fun e w' => e = .returned (.tuple #[shp (headR L a) (headN L a), .int .i64 (headE L a)]) ∧ Below w.heap.size w w' := by
  have HW := Lib.hid (fun (w1 : World) (h1 : RowAt w1 g cap L) => r3word_any h1 a)
  have H := Lib.hid h
  have HA := Lib.hid (row_below h (b_alloc (Below.refl _ w) (.cells #[.int .i64 0, .int .i64 0] 23)))
  have hlen := h.mx
  have hcp := cap_le h.cp
  have hle := h.le
  by_cases h0 : wordE L.length a = 0
  case neg =>
    obtain ⟨e1, e2, e3⟩ := head_no (L := L) (a := a) (fun q => h0 q.1)
    rw [e1, e2, e3, if_neg h0]
    simp only [if_neg h0] at HW
    generalize wordE L.length a = E at *
    unfold shp rowV at *
    clear h e1 e2 e3
    go_enter Try.func83, Try.ntmps83
    go_wp2_with fail
    refine (HW.out _ HA.out).mono ?_
    rintro e w1 ⟨rfl, rfl⟩
    go_wp2_with fail
    exact bodyPost_ret (v := .tuple #[.agg #[.int .i64 0, .int .i64 0], .int .i64 E]) (by simp [results, Try.results83, go_sem]) rfl ⟨rfl, by (repeat' (first | exact Below.refl _ _ | assumption | refine b_alloc ?_ _ | refine b_over ?_ _ | refine b_drew ?_ | refine b_call ?_ (by assumption)))⟩
  case pos =>
    have hb := getW_lt h.by_ a.toNat
    obtain ⟨k, rfl, h3, h4⟩ : ∃ k : Nat, a = k ∧ k + 8 ≤ L.length ∧ k % 8 = 0 := by
      rcases wordE_cases L.length a with ⟨q, _⟩ | ⟨q, _⟩ | ⟨_, _, k, q, q1, q2⟩
      · omega
      · omega
      · exact ⟨k, q, q1, q2⟩
    have HMY := Lib.hid (fun (r n : Int) hh m => mt_yes h0 h3 (r := r) (n := n) hh m)
    have HMN := Lib.hid (fun hh => mt_no h0 h3 hh)
    have HIN := Lib.hid (fun (w1 : World) (h1 : RowAt w1 g cap L) (n : Int) => r3in_any _ L (row_read h1) hlen k n)
    unfold Mt at HMY HMN
    simp only [h0, if_true, if_pos] at HW
    rw [Int.toNat_natCast] at *
    generalize getW L k = W at *
    have k0 : (0 : Int) ≤ k := by omega
    have k1 : (k : Int) ≤ L.length := by omega
    generalize headR L k = HR at *
    generalize headN L k = HN at *
    generalize headE L k = HE at *
    unfold shp rowV at *
    clear h h3 h4 h0
    go_enter Try.func83, Try.ntmps83
    go_wp2_with fail
    refine (HW.out _ HA.out).mono ?_
    rintro e w1 ⟨rfl, rfl⟩
    go_wp2_with fail
    go_loopw [8] (fun rv wr => ∃ r : Nat, r ≤ 16 ∧ rv = .int .i64 r ∧ Hid (∀ r' n' : Int, 0 ≤ r' → r' < r → 0 ≤ n' → r' + n' ≤ 15 → ¬ (wordS r' n' = W ∧ inB L.length k (bytS r' n') = true)) ∧ Hid (Below w.heap.size w wr ∧ Blk wr w.heap.size [.int .i64 0, .int .i64 0])) (fun rv _ => (16 - intOf rv).toNat)
    case atStart => exact ⟨0, by decide, rfl, (fun r' n' h1 h2 => by omega), ⟨b_alloc (Below.refl _ _) _, blk_new _ _ _⟩⟩
    case round =>
      obtain ⟨r, hr, rfl, HNO, HBW⟩ := hrel
      by_cases hr16 : r = 16
      · subst hr16
        have HQ := Lib.hid (HMN.out (fun r' n' q1 q2 q3 => HNO.out r' n' q1 (by omega) q2 q3))
        obtain ⟨c0, c1, cf⟩ := blk2 HBW.out.2
        have hz := HBW.out.2.1
        go_wp2_with fail
        exact bodyPost_ret (v := .tuple #[.agg #[.int .i64 0, .int .i64 0], .int .i64 4]) (by simp [results, Try.results83, go_sem, c0, c1]) rfl ⟨by obtain ⟨e1, e2, e3⟩ := HQ.out; rw [e1, e2, e3], b_set (b_set HBW.out.1 (Nat.le_refl _) _) (Nat.le_refl _) _⟩
      · have hr15 : (r : Int) ≤ 15 := by omega
        have r0 : (0 : Int) ≤ r := by omega
        go_wp2_with fail
        obtain ⟨W1, hW1⟩ : ∃ x, x = wr := ⟨_, rfl⟩
        subst hW1
        go_loopw [9] (fun nv wr => ∃ n : Nat, r + n ≤ 16 ∧ nv = .int .i64 n ∧ Hid (∀ n' : Int, 0 ≤ n' → n' < n → ¬ (wordS r n' = W ∧ inB L.length k (bytS r n') = true)) ∧ Hid (Below w.heap.size w wr ∧ Blk wr w.heap.size [.int .i64 0, .int .i64 0])) (fun nv _ => (16 - intOf nv).toNat)
        case atStart => exact ⟨0, by omega, rfl, (fun n' h1 h2 => by omega), HBW.out⟩
        case round =>
          obtain ⟨n, hn, rfl, HNI, HBI⟩ := hrel
          by_cases hn16 : r + n = 16
          · have hn2 : 15 - (r : Int) < n := by omega
            go_wp2_with fail
            refine ⟨⟨r + 1, by omega, by go_num, fun r' n' q1 q2 q3 q4 => ?_, HBI.out⟩, by simp only [intOf]; omega⟩
            rcases (show r' < r ∨ r' = r by omega) with q | q
            · exact HNO.out r' n' q1 q q3 q4
            · rw [q]; exact HNI.out n' q3 (by omega)
          · have hn2 : (n : Int) ≤ 15 - r := by omega
            have n0 : (0 : Int) ≤ n := by omega
            have n15 : (n : Int) ≤ 15 := by omega
            obtain ⟨W2, hW2⟩ : ∃ x, x = wr := ⟨_, rfl⟩
            subst hW2
            have HWD := Lib.hid (fun w => rword_any r n ⟨r0, hr15, n0, n15⟩ w)
            have HBY := Lib.hid (fun w => rbytes_any r n w)
            have HY := Lib.hid (HMY.out r n ⟨r0, n0, by omega⟩)
            have HSTEP : Hid (¬ (wordS r n = W ∧ inB L.length k (bytS r n) = true) → ∀ n' : Int, 0 ≤ n' → n' < ((n + 1 : Nat) : Int) → ¬ (wordS r n' = W ∧ inB L.length k (bytS r n') = true)) := by
              intro hx n' q1 q2
              rcases (show n' < n ∨ n' = n by omega) with q | q
              · exact HNI.out n' q1 q
              · rw [q]; exact hx
            have hzw := HBI.out.2.1
            obtain ⟨c0, c1, cf⟩ := blk2 HBI.out.2
            have HRW := Lib.hid (row_below H.out HBI.out.1)
            unfold shp at *
            generalize wordS r n = V at *
            generalize bytS r n = m at *
            have HX := Lib.hid (fun (w1 : World) (h1 : RowAt w1 g cap L) => HIN.out w1 h1 m)
            generalize hI : inB L.length k m = I at *
            clear hI HMN HMY HNO HNI
            by_cases q : V = W
            · subst q
              cases I with
              | true =>
                have HQ := Lib.hid (HY.out ⟨rfl, rfl⟩)
                clear HY HSTEP
                go_wp2_with fail
                refine (HWD.out _).mono ?_
                rintro e w3 ⟨rfl, hb3⟩
                obtain ⟨hc3, hf3⟩ := bcell hb3
                have hz3 := hb3.size
                simp only [World.size_alloc] at hz3
                have l3 : W2.heap.size < w3.heap.size := by omega
                have y0 : w3.cell? ⟨W2.heap.size, 0, none⟩ = some (.int .i64 r) := by rw [hc3 _ _ (by simp only [World.size_alloc]; omega)]; go_simp
                have y1 : w3.cell? ⟨W2.heap.size, 1, none⟩ = some (.int .i64 n) := by rw [hc3 _ _ (by simp only [World.size_alloc]; omega)]; go_simp
                have HB3 : Hid (Below W2.heap.size W2 w3) := by show Below _ _ _; exact b_call (b_alloc (Below.refl _ _) _) hb3
                clear hb3 hc3 hf3 hz3
                go_wp2_with fail
                refine (HBY.out _).mono ?_
                rintro e w4 ⟨rfl, hb4⟩
                obtain ⟨hc4, hf4⟩ := bcell hb4
                have hz4 := hb4.size
                have l4 : W2.heap.size < w4.heap.size := by omega
                have z0 : w4.cell? ⟨W2.heap.size, 0, none⟩ = some (.int .i64 r) := by rw [hc4 _ _ l3]; exact y0
                have z1 : w4.cell? ⟨W2.heap.size, 1, none⟩ = some (.int .i64 n) := by rw [hc4 _ _ l3]; exact y1
                have HB4 := Lib.hid (b_call HB3.out hb4)
                clear hb4 hc4 hf4 hz4 y0 y1
                go_wp2_with fail
                refine (HX.out _ (row_below HRW.out HB4.out)).mono ?_
                rintro e w5 ⟨rfl, rfl⟩
                have d0 : w4.cell? ⟨w.heap.size, 0, none⟩ = some (.int .i64 0) := by rw [(bcell HB4.out).1 _ _ hzw]; exact c0
                have d1 : w4.cell? ⟨w.heap.size, 1, none⟩ = some (.int .i64 0) := by rw [(bcell HB4.out).1 _ _ hzw]; exact c1
                have df0 : w4.frozen? ⟨w.heap.size, 0, none⟩ = false := by rw [(bcell HB4.out).2 _ _ hzw]; exact cf 0
                have df1 : w4.frozen? ⟨w.heap.size, 1, none⟩ = false := by rw [(bcell HB4.out).2 _ _ hzw]; exact cf 1
                clear c0 c1 cf
                go_wp2_with fail
                exact bodyPost_ret (v := .tuple #[.agg #[.int .i64 r, .int .i64 n], .int .i64 0]) (by simp [results, Try.results83, go_sem, d0, d1]) rfl ⟨by obtain ⟨e1, e2, e3⟩ := HQ.out; rw [e1, e2, e3], b_set (b_set (b_call HBI.out.1 HB4.out) (Nat.le_refl _) _) (Nat.le_refl _) _⟩
              | false =>
                clear HY
                go_wp2_with fail
                refine (HWD.out _).mono ?_
                rintro e w3 ⟨rfl, hb3⟩
                obtain ⟨hc3, hf3⟩ := bcell hb3
                have hz3 := hb3.size
                simp only [World.size_alloc] at hz3
                have l3 : W2.heap.size < w3.heap.size := by omega
                have y0 : w3.cell? ⟨W2.heap.size, 0, none⟩ = some (.int .i64 r) := by rw [hc3 _ _ (by simp only [World.size_alloc]; omega)]; go_simp
                have y1 : w3.cell? ⟨W2.heap.size, 1, none⟩ = some (.int .i64 n) := by rw [hc3 _ _ (by simp only [World.size_alloc]; omega)]; go_simp
                have HB3 : Hid (Below W2.heap.size W2 w3) := by show Below _ _ _; exact b_call (b_alloc (Below.refl _ _) _) hb3
                clear hb3 hc3 hf3 hz3
                go_wp2_with fail
                refine (HBY.out _).mono ?_
                rintro e w4 ⟨rfl, hb4⟩
                obtain ⟨hc4, hf4⟩ := bcell hb4
                have hz4 := hb4.size
                have l4 : W2.heap.size < w4.heap.size := by omega
                have z0 : w4.cell? ⟨W2.heap.size, 0, none⟩ = some (.int .i64 r) := by rw [hc4 _ _ l3]; exact y0
                have z1 : w4.cell? ⟨W2.heap.size, 1, none⟩ = some (.int .i64 n) := by rw [hc4 _ _ l3]; exact y1
                have HB4 := Lib.hid (b_call HB3.out hb4)
                clear hb4 hc4 hf4 hz4 y0 y1
                go_wp2_with fail
                refine (HX.out _ (row_below HRW.out HB4.out)).mono ?_
                rintro e w5 ⟨rfl, rfl⟩
                clear z0 z1 c0 c1 cf
                go_wp2_with fail
                exact ⟨⟨n + 1, by omega, by go_num, HSTEP.out (fun x => by cases x.2), ⟨b_call HBI.out.1 HB4.out, blk_below HBI.out.2 HB4.out⟩⟩, by simp only [intOf]; omega⟩
            · clear HY
              go_wp2_with fail
              refine (HWD.out _).mono ?_
              rintro e w3 ⟨rfl, hb3⟩
              obtain ⟨hc3, hf3⟩ := bcell hb3
              have hz3 := hb3.size
              simp only [World.size_alloc] at hz3
              have l3 : W2.heap.size < w3.heap.size := by omega
              have y0 : w3.cell? ⟨W2.heap.size, 0, none⟩ = some (.int .i64 r) := by rw [hc3 _ _ (by simp only [World.size_alloc]; omega)]; go_simp
              have y1 : w3.cell? ⟨W2.heap.size, 1, none⟩ = some (.int .i64 n) := by rw [hc3 _ _ (by simp only [World.size_alloc]; omega)]; go_simp
              have HB3 : Hid (Below W2.heap.size W2 w3) := by show Below _ _ _; exact b_call (b_alloc (Below.refl _ _) _) hb3
              clear hb3 hc3 hf3 hz3
              clear y0 y1 c0 c1 cf
              go_wp2_with fail
              exact ⟨⟨n + 1, by omega, by go_num, HSTEP.out (fun x => q x.1), ⟨b_call HBI.out.1 HB3.out, blk_below HBI.out.2 HB3.out⟩⟩, by simp only [intOf]; omega⟩
end Go.Proofs.Ytgbbnmjfkhconaa
