/- Layer 17's objects over a list of bytes (the document's): Field, Make. Conditions: a row as RowAt says. -/
import Derived.Test.YtgbbnmjfkhconaaObj6
namespace Go.Proofs.Ytgbbnmjfkhconaa
open Go.RowKit
set_option linter.unusedVariables false
set_option linter.unusedSimpArgs false
attribute [local go_sem] over_cell over_frozen
theorem rfield_any {w : World} {g cap : Nat} {L : List Int} (h : RowAt w g cap L) (a k : Int) (nu : Bool) : Calls Try.prog 84 #[rowV g L cap, .int .i64 a, .int .i64 k, .bool nu] w fun e w' => e = .returned (.tuple #[.int .i64 (fldP L a k nu), .int .i64 (fldE L a k nu)]) ∧ Below w.heap.size w w' := by
  have HH := Lib.hid (rhead_any h a)
  have hmx := h.mx
  unfold shp rowV at *
  rcases fld_cases L a k nu with ⟨h0, e1, e2⟩ | ⟨h0, h1, e1, e2⟩ | ⟨h0, k1, k2, e1, e2⟩
  · rw [e1, e2]
    generalize headR L a = r at *
    generalize headN L a = n at *
    generalize headE L a = E at *
    clear e1 e2 h
    go_enter Try.func84, Try.ntmps84
    go_wp2_with fail
    refine HH.out.mono ?_
    rintro e w1 ⟨rfl, hb1⟩
    go_wp2_with fail
    go_ret2
    exact ⟨rfl, by (repeat' (first | exact Below.refl _ _ | assumption | refine b_alloc ?_ _ | refine b_over ?_ _ | refine b_drew ?_ | refine b_call ?_ (by assumption)))⟩
  · rw [e1, e2]
    rw [h0] at HH
    clear e1 e2 h
    cases nu with
    | false =>
      have h2 : k < 0 ∨ (0 ≤ k ∧ headR L a ≤ k) := by have : manyF L a false = headR L a := rfl; omega
      generalize headR L a = r at *
      generalize headN L a = n at *
      clear h0 h1
      rcases h2 with q | ⟨q1, q⟩
      · go_enter Try.func84, Try.ntmps84
        go_wp2_with fail
        refine HH.out.mono ?_
        rintro e w1 ⟨rfl, hb1⟩
        go_wp2_with fail
        go_ret2
        exact ⟨rfl, by (repeat' (first | exact Below.refl _ _ | assumption | refine b_alloc ?_ _ | refine b_over ?_ _ | refine b_drew ?_ | refine b_call ?_ (by assumption)))⟩
      · go_enter Try.func84, Try.ntmps84
        go_wp2_with fail
        refine HH.out.mono ?_
        rintro e w1 ⟨rfl, hb1⟩
        go_wp2_with fail
        go_ret2
        exact ⟨rfl, by (repeat' (first | exact Below.refl _ _ | assumption | refine b_alloc ?_ _ | refine b_over ?_ _ | refine b_drew ?_ | refine b_call ?_ (by assumption)))⟩
    | true =>
      have h2 : k < 0 ∨ (0 ≤ k ∧ headN L a ≤ k) := by have : manyF L a true = headN L a := rfl; omega
      generalize headR L a = r at *
      generalize headN L a = n at *
      clear h0 h1
      rcases h2 with q | ⟨q1, q⟩
      · go_enter Try.func84, Try.ntmps84
        go_wp2_with fail
        refine HH.out.mono ?_
        rintro e w1 ⟨rfl, hb1⟩
        go_wp2_with fail
        go_ret2
        exact ⟨rfl, by (repeat' (first | exact Below.refl _ _ | assumption | refine b_alloc ?_ _ | refine b_over ?_ _ | refine b_drew ?_ | refine b_call ?_ (by assumption)))⟩
      · go_enter Try.func84, Try.ntmps84
        go_wp2_with fail
        refine HH.out.mono ?_
        rintro e w1 ⟨rfl, hb1⟩
        go_wp2_with fail
        go_ret2
        exact ⟨rfl, by (repeat' (first | exact Below.refl _ _ | assumption | refine b_alloc ?_ _ | refine b_over ?_ _ | refine b_drew ?_ | refine b_call ?_ (by assumption)))⟩
  · rw [e1, e2]
    obtain ⟨p, rfl, _, x1, x2, x3, x4, _, _⟩ := head_facts h0
    obtain ⟨m1, m2, m3, m4, m5⟩ := man_bd h0 nu
    rw [h0] at HH
    cases nu with
    | false =>
      have h2 : k < headR L p := k2
      rw [show (p : Int) + 8 * (1 + behF L p false + k) = (p : Int) + 8 + 8 * k by have : behF L p false = 0 := rfl; omega]
      generalize headR L p = r at *
      generalize headN L p = n at *
      have p0 : (0 : Int) ≤ p := by omega
      have p1 : (p : Int) ≤ 65536 := by omega
      have k15 : k ≤ 15 := by omega
      clear h0 e1 e2 k2 m1 m2 m3 m4 m5 h x1 x2 x3 x4
      go_enter Try.func84, Try.ntmps84
      go_wp2_with fail
      refine HH.out.mono ?_
      rintro e w1 ⟨rfl, hb1⟩
      go_wp2_with fail
      go_ret2
      exact ⟨rfl, by (repeat' (first | exact Below.refl _ _ | assumption | refine b_alloc ?_ _ | refine b_over ?_ _ | refine b_drew ?_ | refine b_call ?_ (by assumption)))⟩
    | true =>
      have h2 : k < headN L p := k2
      have hbe : behF L p true = headR L p := rfl
      rw [hbe]
      generalize headR L p = r at *
      generalize headN L p = n at *
      rw [show (p : Int) + 8 * (1 + r + k) = (p : Int) + 8 + 8 * r + 8 * k by omega]
      have p0 : (0 : Int) ≤ p := by omega
      have p1 : (p : Int) ≤ 65536 := by omega
      have k15 : k ≤ 15 := by omega
      have r15 : r ≤ 15 := by omega
      clear h0 e1 e2 k2 m1 m2 m3 m4 m5 h x2 x3 x4 hbe
      go_enter Try.func84, Try.ntmps84
      go_wp2_with fail
      refine HH.out.mono ?_
      rintro e w1 ⟨rfl, hb1⟩
      go_wp2_with fail
      go_ret2
      exact ⟨rfl, by (repeat' (first | exact Below.refl _ _ | assumption | refine b_alloc ?_ _ | refine b_over ?_ _ | refine b_drew ?_ | refine b_call ?_ (by assumption)))⟩
/-- What a 'With' leaves: a row like this one, new or the old one. -/
def RowOr (w : World) (g : Nat) (e : Int) (W : List Int) (x : Ending) (w' : World) : Prop := ∃ g' cap', x = .returned (.tuple #[rowV g' W cap', .int .i64 e]) ∧ RowAt w' g' cap' W ∧ (g' = g ∨ w.heap.size ≤ g') ∧ Below w.heap.size w w'
theorem rmake_any {w : World} {g cap : Nat} {L : List Int} (h : RowAt w g cap L) (a r n : Int) : Calls Try.prog 82 #[rowV g L cap, .int .i64 a, shp r n] w (RowOr w g (mkE L a r n) (mkL L a r n)) := by
  have HB := Lib.hid (fun w => rbytes_any r n w)
  have HW := Lib.hid (fun (w1 : World) (h1 : RowAt w1 g cap L) => r3word_any h1 a)
  have HIN := Lib.hid (fun (w1 : World) (h1 : RowAt w1 g cap L) (n : Int) => r3in_any _ L (row_read h1) h.mx a n)
  have H := Lib.hid h
  have hbs := bytS_bd r n
  have HFIN := Lib.hid (fun (E : Int) (M : List Int) (hE : E = mkE L a r n) (hM : M = mkL L a r n) => And.intro hE hM)
  unfold mkL
  by_cases ho : okS r n = true
  case neg =>
    have e1 : mkE L a r n = 1 := by unfold mkE; rw [if_neg ho]
    have ho2 : okS r n = false := by simpa using ho
    have hb0 : bytS r n = 0 := by unfold bytS; rw [if_neg ho]
    rw [e1, if_neg (by decide)]
    rw [hb0] at HB
    unfold shp rowV RowOr at *
    clear e1 ho ho2 h hb0 hbs HFIN
    go_enter Try.func82, Try.ntmps82
    go_wp2_with fail
    refine (HB.out _).mono ?_
    rintro e w1 ⟨rfl, hb1⟩
    have HB1 : Hid (Below w.heap.size w w1) := by show Below _ _ _; (repeat' (first | exact Below.refl _ _ | assumption | refine b_alloc ?_ _ | refine b_over ?_ _ | refine b_drew ?_ | refine b_call ?_ (by assumption)))
    clear hb1
    go_wp2_with fail
    go_ret2
    exact ⟨g, cap, rfl, row_below H.out HB1.out, Or.inl rfl, HB1.out⟩
  case pos =>
    have hb0 : bytS r n ≠ 0 := by have := (okS_iff r n).1 ho; rw [(okS_yes this).2]; omega
    by_cases h0 : wordE L.length a = 0
    case neg =>
      have e1 : mkE L a r n = wordE L.length a := by unfold mkE; rw [if_pos ho, if_neg h0]
      rw [e1, if_neg h0]
      simp only [if_neg h0] at HW
      unfold shp rowV RowOr at *
      generalize bytS r n = m at *
      generalize wordE L.length a = E at *
      clear e1 ho h HFIN
      go_enter Try.func82, Try.ntmps82
      go_wp2_with fail
      refine (HB.out _).mono ?_
      rintro e w1 ⟨rfl, hb1⟩
      have HB1 : Hid (Below w.heap.size w w1) := by show Below _ _ _; (repeat' (first | exact Below.refl _ _ | assumption | refine b_alloc ?_ _ | refine b_over ?_ _ | refine b_drew ?_ | refine b_call ?_ (by assumption)))
      clear hb1
      go_wp2_with fail
      refine (HW.out _ (row_below H.out HB1.out)).mono ?_
      rintro e w2 ⟨rfl, rfl⟩
      go_wp2_with fail
      go_ret2
      exact ⟨g, cap, rfl, row_below H.out HB1.out, Or.inl rfl, HB1.out⟩
    case pos =>
      have e1 : mkE L a r n = inE L.length a (bytS r n) := by unfold mkE; rw [if_pos ho, if_pos h0]
      rw [e1]
      simp only [if_pos h0, h0] at HW
      rcases inE_cases L.length a (bytS r n) with ⟨h1, _⟩ | ⟨h1, k, m, rfl, hm, hkk⟩
      · have HI : inB L.length a (bytS r n) = false := decide_eq_false (by omega)
        rw [h1, if_neg (by decide)]
        replace HIN := Lib.hid (fun w1 h1 => HIN.out w1 h1 (bytS r n))
        rw [HI] at HIN
        unfold shp rowV RowOr at *
        generalize bytS r n = m at *
        generalize (getW L a.toNat) = W at *
        clear e1 h1 h0 ho h HI HFIN
        go_enter Try.func82, Try.ntmps82
        go_wp2_with fail
        refine (HB.out _).mono ?_
        rintro e w1 ⟨rfl, hb1⟩
        obtain ⟨hc1, hf1⟩ := bcell hb1
        have hz1 := hb1.size
        simp only [World.size_alloc] at hz1
        have l1 : w.heap.size < w1.heap.size := by omega
        have x0 : w1.cell? ⟨w.heap.size, 0, none⟩ = some (.int .i64 r) := by rw [hc1 _ _ (by simp only [World.size_alloc]; omega)]; go_simp
        have x1 : w1.cell? ⟨w.heap.size, 1, none⟩ = some (.int .i64 n) := by rw [hc1 _ _ (by simp only [World.size_alloc]; omega)]; go_simp
        have HB1 : Hid (Below w.heap.size w w1) := by show Below _ _ _; (repeat' (first | exact Below.refl _ _ | assumption | refine b_alloc ?_ _ | refine b_over ?_ _ | refine b_drew ?_ | refine b_call ?_ (by assumption)))
        clear hb1 hc1 hf1 hz1
        go_wp2_with fail
        refine (HW.out _ (row_below H.out HB1.out)).mono ?_
        rintro e w2 ⟨rfl, rfl⟩
        go_wp2_with fail
        refine (HB.out _).mono ?_
        rintro e w2 ⟨rfl, hb2⟩
        obtain ⟨hc2, hf2⟩ := bcell hb2
        have hz2 := hb2.size
        have l2 : w.heap.size < w2.heap.size := by omega
        have y0 : w2.cell? ⟨w.heap.size, 0, none⟩ = some (.int .i64 r) := by rw [hc2 _ _ l1]; exact x0
        have y1 : w2.cell? ⟨w.heap.size, 1, none⟩ = some (.int .i64 n) := by rw [hc2 _ _ l1]; exact x1
        have HB2 := Lib.hid (b_call HB1.out hb2)
        clear hb2 hc2 hf2 hz2 x0 x1 l1
        go_wp2_with fail
        refine (HIN.out _ (row_below H.out HB2.out)).mono ?_
        rintro e w3 ⟨rfl, rfl⟩
        go_wp2_with fail
        go_ret2
        exact ⟨g, cap, rfl, row_below H.out HB2.out, Or.inl rfl, HB2.out⟩
      · have HI : inB L.length k (bytS r n) = true := decide_eq_true h1
        replace HIN := Lib.hid (fun w1 h1 => HIN.out w1 h1 (bytS r n))
        rw [HI] at HIN
        have hr15 := (okS_iff r n).1 ho
        have HWD := Lib.hid (fun w => rword_any r n ⟨by omega, by omega, by omega, by omega⟩ w)
        have hV : 0 ≤ wordS r n ∧ wordS r n < 18446744073709551616 := by unfold wordS; omega
        have hF : fillL L k (bytS r n) 0 = lay L k (List.replicate m 0) := by unfold fillL; rw [if_pos h1, hm, Int.toNat_natCast, Int.toNat_natCast]
        have hFl : (lay L k (List.replicate m 0)).length = L.length := lay_length (by rw [List.length_replicate]; omega)
        have h8 : k + 8 ≤ L.length := by
          rcases wordE_cases L.length (k : Int) with ⟨q, _⟩ | ⟨q, _⟩ | ⟨_, _, k', q, q1, _⟩
          · omega
          · omega
          · omega
        have hS : setW (fillL L k (bytS r n) 0) k (wordS r n) = lay (lay L k (List.replicate m 0)) k (putL 8 (wordS r n)) := by
          unfold setW; rw [hF, hFl, if_pos h0, Int.toNat_natCast]
        rw [h1, if_pos rfl, hS]
        have hm16 : m ≤ 65536 := by have := h.mx; omega
        have K := mk_byts m hm16 m rfl
        have HRM : Hid (∀ w3 : World, ReadB (w3.alloc (.cells (byts (List.replicate m 0)).toArray 5)) (.slice (some ⟨w3.heap.size, 0, none⟩) m m) (List.replicate m 0)) := fun w3 => by
          have q := row_read (row_mk w3 m hm16)
          unfold rowV at q
          rw [List.length_replicate] at q
          exact q
        have HLL := Lib.hid (fun (w3 : World) (h3 : RowAt w3 g cap L) u hu => r3with_any h3 k u (List.replicate m 0) hu (isBytes_rep m (by decide)) (by rw [List.length_replicate]; omega))
        have HL2 := Lib.hid (fun (w3 : World) (g3 c3 : Nat) (h3 : RowAt w3 g3 c3 (lay L k (List.replicate m 0))) u hu => r3with_any h3 k u (putL 8 (wordS r n)) hu (isBytes_putL _ _) (by rw [putL_length, hFl]; exact h8))
        have HPUT := Lib.hid (fun w => rnput_any 8 (wordS r n) w (by decide) hV.1 hV.2)
        have HBA : Hid (∀ w3 : World, Below w3.heap.size w3 (w3.alloc (.cells (byts (List.replicate m 0)).toArray 5))) := fun w3 => b_alloc (Below.refl _ _) _
        rw [hm] at HB HIN
        have hm2 : (m : Int) ≠ 0 := by rw [← hm]; exact hb0
        generalize lay (lay L k (List.replicate m 0)) k (putL 8 (wordS r n)) = M2 at *
        generalize putL 8 (wordS r n) = PV at *
        generalize wordS r n = V at *
        unfold shp rowV RowOr at *
        generalize lay L k (List.replicate m 0) = M1 at *
        generalize (byts (List.replicate m 0)).toArray = Z at *
        generalize (getW L (k : Int).toNat) = W at *
        have k0 : (0 : Int) ≤ k := by omega
        have m0 : (0 : Int) ≤ m := by omega
        have m1 : (m : Int) ≤ 65536 := by omega
        have HM1L := Lib.hid hFl
        clear e1 h1 h0 ho h HI hr15 hF hFl hS hkk hm h8 hb0 hbs HFIN hm16
        go_enter Try.func82, Try.ntmps82
        go_wp2_with fail
        refine (HB.out _).mono ?_
        rintro e w1 ⟨rfl, hb1⟩
        obtain ⟨hc1, hf1⟩ := bcell hb1
        have hz1 := hb1.size
        simp only [World.size_alloc] at hz1
        have l1 : w.heap.size < w1.heap.size := by omega
        have x0 : w1.cell? ⟨w.heap.size, 0, none⟩ = some (.int .i64 r) := by rw [hc1 _ _ (by simp only [World.size_alloc]; omega)]; go_simp
        have x1 : w1.cell? ⟨w.heap.size, 1, none⟩ = some (.int .i64 n) := by rw [hc1 _ _ (by simp only [World.size_alloc]; omega)]; go_simp
        have HB1 : Hid (Below w.heap.size w w1) := by show Below _ _ _; (repeat' (first | exact Below.refl _ _ | assumption | refine b_alloc ?_ _ | refine b_over ?_ _ | refine b_drew ?_ | refine b_call ?_ (by assumption)))
        clear hb1 hc1 hf1 hz1
        go_wp2_with fail
        refine (HW.out _ (row_below H.out HB1.out)).mono ?_
        rintro e w2 ⟨rfl, rfl⟩
        go_wp2_with fail
        refine (HB.out _).mono ?_
        rintro e w2 ⟨rfl, hb2⟩
        obtain ⟨hc2, hf2⟩ := bcell hb2
        have hz2 := hb2.size
        have l2 : w.heap.size < w2.heap.size := by omega
        have y0 : w2.cell? ⟨w.heap.size, 0, none⟩ = some (.int .i64 r) := by rw [hc2 _ _ l1]; exact x0
        have y1 : w2.cell? ⟨w.heap.size, 1, none⟩ = some (.int .i64 n) := by rw [hc2 _ _ l1]; exact x1
        have HB2 := Lib.hid (b_call HB1.out hb2)
        clear hb2 hc2 hf2 hz2 x0 x1 l1
        go_wp2_with fail
        refine (HIN.out _ (row_below H.out HB2.out)).mono ?_
        rintro e w3 ⟨rfl, rfl⟩
        go_wp2_with fail
        refine (HB.out _).mono ?_
        rintro e w3 ⟨rfl, hb3⟩
        have HB3 := Lib.hid (b_call HB2.out hb3)
        have HB3a := Lib.hid (b_call HB3.out (HBA.out w3))
        obtain ⟨hc3, hf3⟩ := bcell hb3
        have hz3 := hb3.size
        have l3 : w.heap.size < w3.heap.size := by omega
        have z0 : w3.cell? ⟨w.heap.size, 0, none⟩ = some (.int .i64 r) := by rw [hc3 _ _ l2]; exact y0
        have z1 : w3.cell? ⟨w.heap.size, 1, none⟩ = some (.int .i64 n) := by rw [hc3 _ _ l2]; exact y1
        clear hb3 hc3 hf3 hz3 y0 y1
        go_wp2_with fail
        refine (HLL.out _ (row_below H.out HB3a.out) _ (HRM.out w3)).mono ?_
        rintro e w4 ⟨g4, c4, rfl, R4, hg4, hb4⟩
        have HB4 := Lib.hid (b_call HB3a.out hb4)
        obtain ⟨hc4, hf4⟩ := bcell hb4
        have hz4 := hb4.size
        have la : w.heap.size < (w3.alloc (Obj.cells Z 5)).heap.size := by rw [World.size_alloc]; omega
        have l4 : w.heap.size < w4.heap.size := by omega
        have x0 : w4.cell? ⟨w.heap.size, 0, none⟩ = some (.int .i64 r) := by rw [hc4 _ _ la]; go_simp
        have x1 : w4.cell? ⟨w.heap.size, 1, none⟩ = some (.int .i64 n) := by rw [hc4 _ _ la]; go_simp
        have HR4 := Lib.hid R4
        have HG4 : Hid (w.heap.size ≤ g4) := by show _ ≤ _; omega
        clear hb4 hc4 hf4 hz4 z0 z1 R4 hg4 la l2 l3
        unfold rowV
        go_wp2_with fail
        refine (HWD.out _).mono ?_
        rintro e w5 ⟨rfl, hb5⟩
        have HB5 := Lib.hid (b_call HB4.out hb5)
        have HR5 := Lib.hid (row_below HR4.out hb5)
        clear hb5 x0 x1
        go_wp2_with fail
        refine (HPUT.out _).mono ?_
        rintro e w6 ⟨v6, rfl, own6, hb6⟩
        have HB6 := Lib.hid (b_call HB5.out hb6)
        have HR6 := Lib.hid (row_below HR5.out hb6)
        have HO6 := Lib.hid (ownB_read own6)
        clear hb6 own6
        go_wp2_with fail
        refine (HL2.out _ g4 c4 HR6.out _ HO6.out).mono ?_
        rintro e w7 ⟨g7, c7, rfl, R7, hg7, hb7⟩
        have HB7 := Lib.hid (b_call HB6.out hb7)
        have HR7 := Lib.hid R7
        have HG7 : Hid (w.heap.size ≤ g7) := by show _ ≤ _; have := HB6.out.size; omega
        clear hb7 R7 hg7
        unfold rowV
        go_wp2_with fail
        go_ret2
        exact ⟨g7, c7, rfl, HR7.out, Or.inr HG7.out, HB7.out⟩
end Go.Proofs.Ytgbbnmjfkhconaa
