/- FrameNil, walked: whatever the number and the value, the answer is true. No conditions. -/
import Derived.Test.YtdmidnmciaediaaFrm6
namespace Go.Proofs.Ytdmidnmciaediaa
open Go.RowKit
set_option linter.unusedVariables false
set_option linter.unusedSimpArgs false
attribute [local go_sem] over_cell over_frozen
set_option maxRecDepth 100000 in
set_option maxHeartbeats 4000000 in
theorem frameNil_any (k vk vb : Int) (w : World) : Calls Try.prog 7 #[.int .i64 k, .agg #[.int .i64 vk, .int .u64 vb]] w fun e w' => e = .returned (.bool true) ∧ Below w.heap.size w w' := by
  have HX0 := Lib.hid (blk_new w #[.int .i64 vk, .int .u64 vb] 54)
  have HB0 := Lib.hid (b_alloc (Below.refl w.heap.size w) (.cells #[.int .i64 vk, .int .u64 vb] 54))
  have HK : Hid (∀ w', Below (w.alloc (.cells #[.int .i64 vk, .int .u64 vb] 54)).heap.size (w.alloc (.cells #[.int .i64 vk, .int .u64 vb] 54)) w' → w'.cell? ⟨w.heap.size, 0, none⟩ = some (.int .i64 vk) ∧ w'.cell? ⟨w.heap.size, 1, none⟩ = some (.int .u64 vb)) := Lib.hid (fun w' hb => by
    obtain ⟨y0, y1, _⟩ := blk2 (blk_below HX0.out hb); exact ⟨y0, y1⟩)
  go_enter Try.func7, Try.ntmps7
  go_wp2_with fail
  refine (fpop_nil _).mono ?_
  rintro e w1 ⟨rfl, hb1⟩
  have HB1 := Lib.hid hb1
  clear hb1
  unfold aggV
  go_wp2_with fail
  refine (flocal_nil _ _).mono ?_
  rintro e w2 ⟨rfl, hb2⟩
  have HB2 := Lib.hid (b_call (b_alloc HB1.out _) hb2)
  clear hb2
  unfold aggV
  go_wp2_with fail
  refine (fnew_any ⟨false, ⟨none, 0, 0⟩, 0, ⟨none, 0, 0⟩⟩ (Below.refl _ _)).mono ?_
  rintro e w4 ⟨s, rfl, hf4, hs4, hb4⟩
  have HF4 := Lib.hid hf4
  have HB4 := Lib.hid (b_call (b_alloc HB2.out _) hb4)
  clear hf4 hs4 hb4
  unfold fp
  go_wp2_with fail
  refine (fpop_none HF4.out).mono ?_
  rintro e w5 ⟨rfl, hb5⟩
  have HF5 := Lib.hid (frs_below HF4.out (b_alloc hb5 (.cells #[.int .i64 0, .int .u64 0] 41)))
  have HB5 := Lib.hid (b_alloc (b_call HB4.out hb5) (.cells #[.int .i64 0, .int .u64 0] 41))
  clear hb5
  unfold aggV
  obtain ⟨c0, c1⟩ := HK.out _ HB5.out
  go_wp2_with fail
  refine (fcall_nil _ _ _).mono ?_
  rintro e w6 ⟨rfl, rfl⟩
  go_wp2_with fail
  refine (fret_nil _).mono ?_
  rintro e w6 ⟨rfl, rfl⟩
  go_wp2_with fail
  refine (lours28 _ _ _).mono ?_
  rintro e w7 ⟨rfl, hb7⟩
  have HB7 := Lib.hid (b_call HB5.out hb7)
  have HF7 := Lib.hid (frs_below HF5.out hb7)
  clear hb7 c0 c1
  go_wp2_with fail
  refine (fpush_nil _ _).mono ?_
  rintro e w8 ⟨rfl, hb8⟩
  have HB8 := Lib.hid (b_call HB7.out hb8)
  have HF8 := Lib.hid (frs_below HF7.out hb8)
  obtain ⟨c0, c1⟩ := HK.out _ HB8.out
  clear hb8
  go_wp2_with fail
  refine (lours28 _ _ _).mono ?_
  rintro e w9 ⟨rfl, hb9⟩
  have HB9 := Lib.hid (b_call HB8.out hb9)
  have HF9 := Lib.hid (frs_below HF8.out hb9)
  clear hb9 c0 c1
  go_wp2_with fail
  refine (fset_nil _ _ _).mono ?_
  rintro e w10 ⟨rfl, hb10⟩
  have HB10 := Lib.hid (b_call HB9.out hb10)
  have HF10 := Lib.hid (frs_below HF9.out hb10)
  obtain ⟨c0, c1⟩ := HK.out _ HB10.out
  clear hb10
  go_wp2_with fail
  refine (fgo_nil _ _).mono ?_
  rintro e w11 ⟨rfl, rfl⟩
  go_wp2_with fail
  refine (flen_nil _).mono ?_
  rintro e w11 ⟨rfl, rfl⟩
  go_wp2_with fail
  refine (frefs_nil _).mono ?_
  rintro e w11 ⟨rfl, rfl⟩
  go_wp2_with fail
  refine (fbym_nil _ _).mono ?_
  rintro e w11 ⟨rfl, rfl⟩
  go_wp2_with fail
  refine (lours28 _ _ _).mono ?_
  rintro e w11 ⟨rfl, hb11⟩
  have HB11 := Lib.hid (b_call HB10.out hb11)
  have HF11 := Lib.hid (frs_below HF10.out hb11)
  clear hb11 c0 c1
  go_wp2_with fail
  refine (fpush_none HF11.out _).mono ?_
  rintro e w12 ⟨rfl, hb12⟩
  have HB12 := Lib.hid (b_call HB11.out hb12)
  have HF12 := Lib.hid (frs_below HF11.out hb12)
  clear hb12
  go_wp2_with fail
  refine (fcall_out (P := ⟨false, [], 0, []⟩) HF12.out ⟨rfl, readI_nil _, rfl, [], readR_nil _, trivial⟩ k _ (by simp)).mono ?_
  rintro e w13 ⟨rfl, rfl⟩
  go_wp2_with fail
  refine (fret_none HF12.out).mono ?_
  rintro e w13 ⟨rfl, rfl⟩
  go_wp2_with fail
  refine (awake28 _).mono ?_
  rintro e w14 ⟨rfl, hb14⟩
  have HB14 := Lib.hid (b_call (b_call HB0.out HB12.out) hb14)
  clear hb14
  go_wp2_with fail
  go_ret
  exact ⟨rfl, HB14.out⟩
end Go.Proofs.Ytdmidnmciaediaa
