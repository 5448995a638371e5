/- BitsetEnds' walk: for every number the law returns true; old memory stands. Conditions: the library's table as it is laid. -/
import Derived.Test.YtfbdnjmljdfjjaaDoorBit5
namespace Go.Proofs.YtfbdnjmljdfjjaaDoor
open Go.RowKit
set_option linter.unusedVariables false
set_option linter.unusedSimpArgs false
attribute [local go_sem] over_cell over_frozen
theorem bhas_nil (i : Int) (w : World) : Calls Tryd.prog 14 #[.pointer none, .int .i64 i] w fun e w' => e = .returned (.bool false) ∧ w = w' := by
  have HI := Lib.hid (bin_any (n := 0) (blen_nil w) i)
  rw [decide_eq_false (by omega)] at HI
  go_enter Tryd.func14, Tryd.ntmps14
  go_wp2_with fail
  refine HI.out.mono ?_
  rintro e w1 ⟨rfl, rfl⟩
  go_wp2_with fail
  go_ret
  exact ⟨rfl, rfl⟩
theorem rep_zero : List.replicate (bitN 0) false = ([] : List Bool) := rfl
set_option maxRecDepth 100000 in
theorem bitsetEnds_any (n : Int) {w : World} (hT : TabZ w) : Calls Tryd.prog 6 #[.int .i64 n] w fun e w' => e = .returned (.bool true) ∧ Below w.heap.size w w' := by
  have HT := Lib.hid hT
  have N1 := Lib.hid (fun w => bnew_any n w)
  have N2 := Lib.hid (fun w => rnew2_any n w)
  clear hT
  generalize List.replicate (bitN n) false = l at N1 N2
  have t1 : ((l.length : Int) == (l.length : Int)) = true := by simp
  go_enter Tryd.func6, Tryd.ntmps6
  go_wp2_with fail
  refine (bnext_nil _ _ _).mono ?_
  rintro e w1 ⟨rfl, rfl⟩
  go_wp2_with fail
  refine (N1.out _).mono ?_
  rintro e w1 ⟨s, g, cap, W, rfl, hb, hs, hg, hb1⟩
  have HB := Lib.hid hb
  clear hb hs hg
  unfold sp
  go_wp2_with fail
  refine (blen_any HB.out).mono ?_
  rintro e w2 ⟨rfl, rfl⟩
  go_wp2_with fail
  refine (N2.out _).mono ?_
  rintro e w2 ⟨g2, rfl, hr2, _, hb2⟩
  have HB2 := b_call hb1 hb2
  clear hr2
  go_wp2_with fail
  refine (blen_nil _).mono ?_
  rintro e w3 ⟨rfl, rfl⟩
  go_wp2_with fail
  refine (bcount_nil _).mono ?_
  rintro e w3 ⟨rfl, rfl⟩
  go_wp2_with fail
  refine (bhas_nil _ _).mono ?_
  rintro e w3 ⟨rfl, rfl⟩
  go_wp2_with fail
  refine (bput_nil _ _ _).mono ?_
  rintro e w3 ⟨rfl, rfl⟩
  go_wp2_with fail
  refine (ball_nil _).mono ?_
  rintro e w3 ⟨v3, rfl, ho3, hb3⟩
  obtain ⟨a3, c3, rfl⟩ := readI_len (ownI_read ho3)
  have HB3 := b_call HB2 hb3
  rw [show (nats (allF [] 0)).length = 0 from rfl]
  clear ho3
  go_wp2_with fail
  refine (bcopy_nil _).mono ?_
  rintro e w4 ⟨rfl, rfl⟩
  go_wp2_with fail
  refine (bnew_any 0 _).mono ?_
  rintro e w4 ⟨s4, g4, cap4, W4, rfl, hb4, _, _, hbb4⟩
  rw [rep_zero] at hb4
  have H4 := Lib.hid hb4
  have HB4 := b_call HB3 hbb4
  clear hb4
  unfold sp
  go_wp2_with fail
  refine (bsame_any (sameV_nil _) (sameV_bit H4.out (tabZ_below HT.out HB4))).mono ?_
  rintro e w5 ⟨rfl, hb5⟩
  have HB5 := b_call HB4 hb5
  rw [show decide (([] : List Bool) = []) = true from rfl]
  go_wp2_with fail
  refine (awake02 (tabZ_below HT.out HB5)).mono ?_
  rintro e w6 ⟨rfl, hb6⟩
  go_wp2_with fail
  go_ret
  exact ⟨rfl, b_call HB5 hb6⟩
end Go.Proofs.YtfbdnjmljdfjjaaDoor
