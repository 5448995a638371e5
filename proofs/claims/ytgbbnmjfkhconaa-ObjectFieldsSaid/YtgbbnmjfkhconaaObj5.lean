/- Layer 17's objects over an arena: Make. Conditions: an arena as AreAt says. -/
import Derived.Test.YtgbbnmjfkhconaaObj4
namespace Go.Proofs.Ytgbbnmjfkhconaa
open Go.RowKit
set_option linter.unusedVariables false
set_option linter.unusedSimpArgs false
attribute [local go_sem] over_cell over_frozen
theorem omake_nil (a r n : Int) (w : World) : Calls Try.prog 43 #[.pointer none, .int .i64 a, shp r n] w fun e w' => e = .returned (.int .i64 2) ∧ Below w.heap.size w w' := by
  have HB := Lib.hid (fun w => obytes_any r n w)
  unfold shp at *
  generalize bytS r n = m at *
  generalize okS r n = q at *
  go_enter Try.func43, Try.ntmps43
  go_wp2_with fail
  refine (HB.out _).mono ?_
  rintro e w1 ⟨rfl, hb1⟩
  go_wp2_with fail
  go_ret
  exact ⟨rfl, by (repeat' (first | exact Below.refl _ _ | assumption | refine b_alloc ?_ _ | refine b_over ?_ _ | refine b_drew ?_ | refine b_call ?_ (by assumption)))⟩
theorem omake_any {w : World} {b g cap : Nat} {L : List Int} (h : AreAt w b g cap L) (a r n : Int) : Calls Try.prog 43 #[tp b, .int .i64 a, shp r n] w fun e w' => e = .returned (.int .i64 (mkE L a r n)) ∧ AreAt w' b g cap (mkL L a r n) ∧ w.grownBy w' (some g) := by
  have HB := Lib.hid (fun w => obytes_any r n w)
  have HW := Lib.hid (fun (w1 : World) (h1 : AreAt w1 b g cap L) => aword_any h1 a)
  have HF := Lib.hid (fun (w1 : World) (h1 : AreAt w1 b g cap L) => afill_any h1 a (bytS r n) 0 (by decide))
  have H := Lib.hid h
  have hmx := h.mx
  have hbs := bytS_bd r n
  unfold mkL
  by_cases ho : okS r n = true
  case neg =>
    have e1 : mkE L a r n = 1 := by unfold mkE; rw [if_neg ho]
    have ho2 : okS r n = false := by simpa using ho
    rw [e1, if_neg (by decide)]
    rw [ho2] at HB
    unfold shp tp at *
    generalize bytS r n = m at *
    clear e1 ho ho2 h
    go_enter Try.func43, Try.ntmps43
    go_wp2_with fail
    refine (HB.out _).mono ?_
    rintro e w1 ⟨rfl, hb1⟩
    have HB1 : Hid (Below w.heap.size w w1) := by show Below _ _ _; (repeat' (first | exact Below.refl _ _ | assumption | refine b_alloc ?_ _ | refine b_over ?_ _ | refine b_drew ?_ | refine b_call ?_ (by assumption)))
    clear hb1
    go_wp2_with fail
    go_ret
    exact ⟨rfl, are_below H.out HB1.out, gb_of HB1.out _⟩
  case pos =>
    rw [ho] at HB
    by_cases h0 : wordE L.length a = 0
    case neg =>
      have e1 : mkE L a r n = wordE L.length a := by unfold mkE; rw [if_pos ho, if_neg h0]
      rw [e1, if_neg h0]
      simp only [if_neg h0] at HW
      unfold shp tp at *
      generalize bytS r n = m at *
      generalize wordE L.length a = E at *
      clear e1 ho h
      go_enter Try.func43, Try.ntmps43
      go_wp2_with fail
      refine (HB.out _).mono ?_
      rintro e w1 ⟨rfl, hb1⟩
      have HB1 : Hid (Below w.heap.size w w1) := by show Below _ _ _; (repeat' (first | exact Below.refl _ _ | assumption | refine b_alloc ?_ _ | refine b_over ?_ _ | refine b_drew ?_ | refine b_call ?_ (by assumption)))
      clear hb1
      go_wp2_with fail
      refine (HW.out _ (are_below H.out HB1.out)).mono ?_
      rintro e w2 ⟨rfl, rfl⟩
      go_wp2_with fail
      go_ret
      exact ⟨rfl, are_below H.out HB1.out, gb_of HB1.out _⟩
    case pos =>
      have e1 : mkE L a r n = inE L.length a (bytS r n) := by unfold mkE; rw [if_pos ho, if_pos h0]
      rw [e1]
      simp only [if_pos h0, h0] at HW
      rcases inE_cases L.length a (bytS r n) with ⟨h1, _⟩ | ⟨h1, k, m, rfl, hm, hkk⟩
      · rw [h1] at HF ⊢
        rw [if_neg (by decide)]
        have e2 : fillL L a (bytS r n) 0 = L := by unfold fillL; rw [if_neg (by omega)]
        rw [e2] at HF
        unfold shp tp at *
        generalize bytS r n = m at *
        generalize (getW L a.toNat) = W at *
        clear e1 e2 h1 h0 ho h
        go_enter Try.func43, Try.ntmps43
        go_wp2_with fail
        refine (HB.out _).mono ?_
        rintro e w1 ⟨rfl, hb1⟩
        have HB1 : Hid (Below w.heap.size w w1) := by show Below _ _ _; (repeat' (first | exact Below.refl _ _ | assumption | refine b_alloc ?_ _ | refine b_over ?_ _ | refine b_drew ?_ | refine b_call ?_ (by assumption)))
        clear hb1
        go_wp2_with fail
        refine (HW.out _ (are_below H.out HB1.out)).mono ?_
        rintro e w2 ⟨rfl, rfl⟩
        go_wp2_with fail
        refine (HF.out _ (are_below H.out HB1.out)).mono ?_
        rintro e w3 ⟨rfl, A3, G3⟩
        have HA3 := Lib.hid A3
        have HG3 := Lib.hid G3
        clear A3 G3
        go_wp2_with fail
        go_ret
        exact ⟨rfl, HA3.out, below_gb HB1.out HG3.out⟩
      · rw [h1] at HF ⊢
        rw [if_pos rfl]
        have hr15 := (okS_iff r n).1 ho
        have HWD := Lib.hid (fun w => oword_any r n ⟨by omega, by omega, by omega, by omega⟩ w)
        have hV : 0 ≤ wordS r n ∧ wordS r n < 18446744073709551616 := by unfold wordS; omega
        have hfl : (fillL L k (bytS r n) 0).length = L.length := fillL_length _ _ _ _
        have HS := Lib.hid (fun (w1 : World) (h1 : AreAt w1 b g cap (fillL L k (bytS r n) 0)) => asetw_any h1 k (wordS r n) hV.1 hV.2)
        rw [hfl, h0] at HS
        unfold shp tp at *
        generalize fillL L k (bytS r n) 0 = F at *
        generalize bytS r n = m at *
        generalize wordS r n = V at *
        generalize (getW L (k : Int).toNat) = W at *
        clear e1 h1 h0 ho h hr15 hfl hkk hm
        go_enter Try.func43, Try.ntmps43
        go_wp2_with fail
        refine (HB.out _).mono ?_
        rintro e w1 ⟨rfl, hb1⟩
        have HB1 : Hid (Below w.heap.size w w1) := by show Below _ _ _; (repeat' (first | exact Below.refl _ _ | assumption | refine b_alloc ?_ _ | refine b_over ?_ _ | refine b_drew ?_ | refine b_call ?_ (by assumption)))
        obtain ⟨hc1, hf1⟩ := bcell hb1
        have hz1 := hb1.size
        simp only [World.size_alloc] at hz1
        have x0 : w1.cell? ⟨w.heap.size, 0, none⟩ = some (.int .i64 r) := by rw [hc1 _ _ (by simp only [World.size_alloc]; omega)]; go_simp
        have x1 : w1.cell? ⟨w.heap.size, 1, none⟩ = some (.int .i64 n) := by rw [hc1 _ _ (by simp only [World.size_alloc]; omega)]; go_simp
        clear hb1 hc1 hf1
        go_wp2_with fail
        refine (HW.out _ (are_below H.out HB1.out)).mono ?_
        rintro e w2 ⟨rfl, rfl⟩
        go_wp2_with fail
        refine (HF.out _ (are_below H.out HB1.out)).mono ?_
        rintro e w3 ⟨rfl, A3, G3⟩
        have hgl := H.out.rw.1
        have y0 : w3.cell? ⟨w.heap.size, 0, none⟩ = some (.int .i64 r) := by rw [(gb_cell G3).1 _ _ (by omega) (by omega)]; exact x0
        have y1 : w3.cell? ⟨w.heap.size, 1, none⟩ = some (.int .i64 n) := by rw [(gb_cell G3).1 _ _ (by omega) (by omega)]; exact x1
        have HA3 := Lib.hid A3
        have HG3 := Lib.hid G3
        clear A3 G3 x0 x1
        go_wp2_with fail
        refine (HWD.out _).mono ?_
        rintro e w4 ⟨rfl, hb4⟩
        have HA4 := Lib.hid (are_below HA3.out hb4)
        have HG4 := Lib.hid (gb_below HG3.out hb4)
        clear y0 y1 hb4
        go_wp2_with fail
        refine (HS.out _ HA4.out).mono ?_
        rintro e w5 ⟨rfl, A5, G5⟩
        have HA5 := Lib.hid A5
        have HG5 := Lib.hid G5
        clear A5 G5
        go_wp2_with fail
        go_ret
        exact ⟨rfl, HA5.out, below_gb HB1.out (gb_trans HG4.out HG5.out)⟩
end Go.Proofs.Ytgbbnmjfkhconaa
