/- Layer 17's example, and ObjectShapes. No conditions. -/
import Derived.Test.YtgbbnmjfkhconaaObj5
import Derived.Test.YtgbbnmjfkhconaaAre3
import Derived.Test.YtgbbnmjfkhconaaAreZ
namespace Go.Proofs.Ytgbbnmjfkhconaa
open Go.RowKit
set_option linter.unusedVariables false
set_option linter.unusedSimpArgs false
attribute [local go_sem] over_cell over_frozen
theorem awake17_any (w : World) : Calls Try.prog 17 #[] w fun e w' => e = .returned (.bool true) ∧ Below w.heap.size w w' := by
  have HB := Lib.hid (fun w => obytes_any 1 2 w)
  have HC := Lib.hid (fun w => oclass_any 1 2 w)
  have HN := Lib.hid (anew_any 1)
  rw [show bytS 1 2 = 32 from rfl, show okS 1 2 = true from rfl] at HB
  rw [show clsS (bytS 1 2) = 1 from rfl, show okS 1 2 = true from rfl] at HC
  unfold shp at *
  go_enter Try.func17, Try.ntmps17
  go_wp2_with fail
  refine (HB.out _).mono ?_
  rintro e w1 ⟨rfl, hb1⟩
  go_wp2_with fail
  refine (HC.out _).mono ?_
  rintro e w2 ⟨rfl, hb2⟩
  go_wp2_with fail
  refine (HN.out _).mono ?_
  rintro e w3 ⟨b, g, cap, rfl, A3, hb, hg, B3⟩
  obtain ⟨L, hL⟩ : ∃ L : List Int, L = List.replicate (256 * pagesN 1) 0 := ⟨_, rfl⟩
  rw [← hL] at A3
  have HM := Lib.hid (omake_any A3 16 1 0)
  have e1 : mkE L 16 1 0 = 0 := by rw [hL]; decide +kernel
  have e2 : refV (mkL L 16 1 0) 16 0 = -1 := by rw [hL]; decide +kernel
  have e3 : fldE (mkL L 16 1 0) 16 0 false = 0 := by rw [hL]; decide +kernel
  rw [e1] at HM
  generalize mkL L 16 1 0 = L4 at *
  have HB3 := Lib.hid (b_call (b_call hb1 hb2) B3)
  have HGB : Hid (w.heap.size ≤ g) := by show _ ≤ _; have := hb1.size; have := hb2.size; omega
  unfold shp tp at *
  clear e1 hL hb hg B3 hb1 hb2 A3
  go_wp2_with fail
  refine HM.out.mono ?_
  rintro e w4 ⟨rfl, A4, G4⟩
  have HR := Lib.hid (oref_any A4 16 0)
  rw [e2, e3] at HR
  have HB4 := Lib.hid (b_grown HB3.out G4 HGB.out)
  unfold tp at *
  clear A4 G4
  go_wp2_with fail
  refine HR.out.mono ?_
  rintro e w5 ⟨rfl, hb5⟩
  have HB5 := Lib.hid (b_call HB4.out hb5)
  clear hb5
  go_wp2_with fail
  go_ret
  exact ⟨rfl, HB5.out⟩
end Go.Proofs.Ytgbbnmjfkhconaa
