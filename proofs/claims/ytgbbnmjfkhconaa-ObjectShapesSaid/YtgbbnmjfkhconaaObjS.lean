/- ObjectShapes: how many bytes a shape takes, and of which class it is. No conditions. -/
import Derived.Test.YtgbbnmjfkhconaaObjA
namespace Go.Proofs.Ytgbbnmjfkhconaa
open Go.RowKit
set_option linter.unusedVariables false
set_option linter.unusedSimpArgs false
attribute [local go_sem] over_cell over_frozen
theorem objectShapes_any (r n : Int) (w : World) : Calls Try.prog 3 #[.agg #[.int .i64 r, .int .i64 n]] w fun e w' => e = .returned (.bool true) ∧ Below w.heap.size w w' := by
  have HO := Lib.hid (fun w => ours17_any r n w)
  have HB := Lib.hid (fun w => obytes_any r n w)
  have HC := Lib.hid (fun w => oclass_any r n w)
  have HRB := Lib.hid (fun w => rbytes_any r n w)
  have HRC := Lib.hid (fun w => rclass_any r n w)
  have HAW := Lib.hid awake17_any
  by_cases h : 0 ≤ r ∧ 0 ≤ n ∧ r + n ≤ 15
  · obtain ⟨e1, e2⟩ := okS_yes h
    have hb : 8 ≤ bytS r n := by rw [e2]; omega
    rw [e1] at HB HC
    generalize clsS (bytS r n) = c at *
    generalize bytS r n = m at *
    unfold shp at *
    clear e1 e2 h
    go_enter Try.func3, Try.ntmps3
    go_wp2_with fail
    refine (HO.out _).mono ?_
    rintro e w1 ⟨rfl, hb1⟩
    go_wp2_with fail
    refine (HB.out _).mono ?_
    rintro e w2 ⟨rfl, hb2⟩
    obtain ⟨hc1, hf1⟩ := bcell hb1
    obtain ⟨hc2, hf2⟩ := bcell hb2
    have hz1 := hb1.size
    have hz2 := hb2.size
    simp only [World.size_alloc] at hz1
    have l1 : w.heap.size < w1.heap.size := by omega
    have l2 : w.heap.size < w2.heap.size := by omega
    have x0 : w2.cell? ⟨w.heap.size, 0, none⟩ = some (.int .i64 r) := by rw [hc2 _ _ l1, hc1 _ _ (by simp only [World.size_alloc]; omega)]; go_simp
    have x1 : w2.cell? ⟨w.heap.size, 1, none⟩ = some (.int .i64 n) := by rw [hc2 _ _ l1, hc1 _ _ (by simp only [World.size_alloc]; omega)]; go_simp
    have HB2 : Hid (Below w.heap.size w w2) := by show Below _ _ _; exact b_call (b_call (b_alloc (Below.refl _ _) _) hb1) hb2
    clear hb1 hb2 hc1 hc2 hf1 hf2 hz1 hz2 l1
    go_wp2_with fail
    refine (HO.out _).mono ?_
    rintro e w3 ⟨rfl, hb3⟩
    go_wp2_with fail
    refine (HC.out _).mono ?_
    rintro e w4 ⟨rfl, hb4⟩
    have hb34 := b_call hb3 hb4
    obtain ⟨hc4, hf4⟩ := bcell hb34
    have hz4 := hb34.size
    have l4 : w.heap.size < w4.heap.size := by omega
    have y0 : w4.cell? ⟨w.heap.size, 0, none⟩ = some (.int .i64 r) := by rw [hc4 _ _ l2]; exact x0
    have y1 : w4.cell? ⟨w.heap.size, 1, none⟩ = some (.int .i64 n) := by rw [hc4 _ _ l2]; exact x1
    have HB4 := Lib.hid (b_call HB2.out hb34)
    clear hb3 hb4 hb34 hc4 hf4 hz4 x0 x1
    go_wp2_with fail
    refine (HRB.out _).mono ?_
    rintro e w5 ⟨rfl, hb5⟩
    obtain ⟨hc5, hf5⟩ := bcell hb5
    have hz5 := hb5.size
    have l5 : w.heap.size < w5.heap.size := by omega
    have z0 : w5.cell? ⟨w.heap.size, 0, none⟩ = some (.int .i64 r) := by rw [hc5 _ _ l4]; exact y0
    have z1 : w5.cell? ⟨w.heap.size, 1, none⟩ = some (.int .i64 n) := by rw [hc5 _ _ l4]; exact y1
    have HB5 := Lib.hid (b_call HB4.out hb5)
    clear hb5 hc5 hf5 hz5 y0 y1
    go_wp2_with fail
    refine (HRC.out _).mono ?_
    rintro e w6 ⟨rfl, hb6⟩
    have HB6 := Lib.hid (b_call HB5.out hb6)
    clear hb6
    go_wp2_with fail
    refine (HAW.out _).mono ?_
    rintro e w7 ⟨rfl, hb7⟩
    have HB7 := Lib.hid (b_call HB6.out hb7)
    clear hb7
    go_wp2_with fail
    go_ret
    exact ⟨rfl, HB7.out⟩
  · obtain ⟨e1, e2⟩ := okS_no h
    rw [e1, e2] at HB HC
    rw [show clsS 0 = 0 from rfl] at HC
    rw [e2] at HRB
    unfold shp at *
    clear e1 e2 h HRC
    go_enter Try.func3, Try.ntmps3
    go_wp2_with fail
    refine (HO.out _).mono ?_
    rintro e w1 ⟨rfl, hb1⟩
    go_wp2_with fail
    refine (HB.out _).mono ?_
    rintro e w2 ⟨rfl, hb2⟩
    obtain ⟨hc1, hf1⟩ := bcell hb1
    obtain ⟨hc2, hf2⟩ := bcell hb2
    have hz1 := hb1.size
    have hz2 := hb2.size
    simp only [World.size_alloc] at hz1
    have l1 : w.heap.size < w1.heap.size := by omega
    have l2 : w.heap.size < w2.heap.size := by omega
    have x0 : w2.cell? ⟨w.heap.size, 0, none⟩ = some (.int .i64 r) := by rw [hc2 _ _ l1, hc1 _ _ (by simp only [World.size_alloc]; omega)]; go_simp
    have x1 : w2.cell? ⟨w.heap.size, 1, none⟩ = some (.int .i64 n) := by rw [hc2 _ _ l1, hc1 _ _ (by simp only [World.size_alloc]; omega)]; go_simp
    have HB2 : Hid (Below w.heap.size w w2) := by show Below _ _ _; exact b_call (b_call (b_alloc (Below.refl _ _) _) hb1) hb2
    clear hb1 hb2 hc1 hc2 hf1 hf2 hz1 hz2 l1
    go_wp2_with fail
    refine (HO.out _).mono ?_
    rintro e w3 ⟨rfl, hb3⟩
    go_wp2_with fail
    refine (HC.out _).mono ?_
    rintro e w4 ⟨rfl, hb4⟩
    have hb34 := b_call hb3 hb4
    obtain ⟨hc4, hf4⟩ := bcell hb34
    have hz4 := hb34.size
    have l4 : w.heap.size < w4.heap.size := by omega
    have y0 : w4.cell? ⟨w.heap.size, 0, none⟩ = some (.int .i64 r) := by rw [hc4 _ _ l2]; exact x0
    have y1 : w4.cell? ⟨w.heap.size, 1, none⟩ = some (.int .i64 n) := by rw [hc4 _ _ l2]; exact x1
    have HB4 := Lib.hid (b_call HB2.out hb34)
    clear hb3 hb4 hb34 hc4 hf4 hz4 x0 x1
    go_wp2_with fail
    refine (HRB.out _).mono ?_
    rintro e w5 ⟨rfl, hb5⟩
    have HB5 := Lib.hid (b_call HB4.out hb5)
    clear hb5 y0 y1
    go_wp2_with fail
    refine (HAW.out _).mono ?_
    rintro e w7 ⟨rfl, hb7⟩
    have HB7 := Lib.hid (b_call HB5.out hb7)
    clear hb7
    go_wp2_with fail
    go_ret
    exact ⟨rfl, HB7.out⟩
end Go.Proofs.Ytgbbnmjfkhconaa
