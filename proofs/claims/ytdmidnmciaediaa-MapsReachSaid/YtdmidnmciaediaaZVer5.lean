/- Layer 26: the contracts of the program's objects, blocks, reckons. Conditions: those stated. Layer 26: the contract of the program's reckons. Conditions: those stated. -/
import Derived.Test.YtdmidnmciaediaaZVer4
namespace Go.Proofs.Ytdmidnmciaediaa
section
open Go.RowKit
set_option linter.unusedVariables false
set_option linter.unusedSimpArgs false
attribute [local go_sem] over_cell over_frozen
set_option maxRecDepth 100000 in
set_option maxHeartbeats 2000000 in
theorem vobjects18 (x a b : Int) (B : Nat) (w : World) : Calls Try.prog 129 #[.agg #[.int .i64 18, .int .u64 x, .int .i64 a, .int .i64 b]] w (RetF B w ⟨[2], [2], 0⟩) := by
  go_enter Try.func129, Try.ntmps129
  go_upto_region 1 with fail
  refine wp_named ?_
  intro W hW
  obtain ⟨q0, q1, qb⟩ := boxes2 w #[.int .i64 18, .int .u64 x, .int .i64 a, .int .i64 b] #[.slice none 0 0, .slice none 0 0, .int .i64 0] 123 179
  rw [← hW] at q0 q1 qb
  have HBW := Lib.hid qb
  have HK : Hid (∀ w', Below W.heap.size W w' → w'.cell? ⟨w.heap.size, 0, none⟩ = some (.int .i64 18) ∧ w'.cell? ⟨w.heap.size, 1, none⟩ = some (.int .u64 x) ∧ w'.cell? ⟨w.heap.size, 2, none⟩ = some (.int .i64 a) ∧ w'.cell? ⟨w.heap.size, 3, none⟩ = some (.int .i64 b) ∧ w'.cell? ⟨w.heap.size + 1, 0, none⟩ = some (.slice none 0 0) ∧ w'.cell? ⟨w.heap.size + 1, 1, none⟩ = some (.slice none 0 0) ∧ w'.cell? ⟨w.heap.size + 1, 2, none⟩ = some (.int .i64 0) ∧ (∀ i, w'.frozen? ⟨w.heap.size + 1, i, none⟩ = false) ∧ w.heap.size < w'.heap.size ∧ w.heap.size + 1 < w'.heap.size) := Lib.hid (fun w' hb => by
    have k0 := blk_below q0 hb
    obtain ⟨x0_0, x0_1, x0_2, x0_3, f0⟩ := blk4 k0
    have z0 := k0.1
    have k1 := blk_below q1 hb
    obtain ⟨x1_0, x1_1, x1_2, f1⟩ := v_blk3 k1
    have z1 := k1.1
    exact ⟨x0_0, x0_1, x0_2, x0_3, x1_0, x1_1, x1_2, f1, z0, z1⟩)
  clear hW qb q0 q1
  have HBI : Hid (Below W.heap.size W W) := Below.refl _ _
  obtain ⟨c0_0, c0_1, c0_2, c0_3, c1_0, c1_1, c1_2, cf, s0, s1⟩ := HK.out W HBI.out
  go_wp2_with fail
  refine (vof_any _ _ _ _ _ _ _).mono ?_
  rintro e w8 ⟨rfl, hb8⟩
  have HB8 := Lib.hid (b_call (b_alloc (b_alloc HBI.out _) _) hb8)
  clear c0_0 c0_1 c0_2 c0_3 c1_0 c1_1 c1_2 cf s0 s1
  have HC := Lib.hid hb8
  clear hb8
  obtain ⟨c0_0, c0_1, c0_2, c0_3, c1_0, c1_1, c1_2, cf, s0, s1⟩ := HK.out w8 HB8.out
  have HS := Lib.hid (HK.out _ HBI.out)
  unfold aggD
  go_wp2_with fail
  have hx : w.heap.size + 1 < W.heap.size := by have := HS.out; omega
  exact bodyPost_ret (v := .agg #[.slice (some ⟨W.heap.size, 0, none⟩) 1 1, .slice (some ⟨W.heap.size + 1, 0, none⟩) 1 1, .int .i64 0]) (by simp [results, Try.results129, go_sem, c1_0, c1_1, c1_2]) rfl (by
    show RetF _ _ _ _ _
    exact ⟨_, _, _, _, rfl, lit_far (w2 := W) [2] rfl (by simp) (b_call (b_alloc (Below.refl _ _) _) HC.out) (gb_set3 _ _ _ _ _) hx, lit_far (w2 := (W.alloc (.cells #[.int .i64 2] 3))) [2] (by simp) (by simp) HC.out (gb_set3 _ _ _ _ _) (by simp; omega), far_new (by have := (b_call HBW.out HBI.out).size; omega), far_new (by have := (b_call HBW.out HBI.out).size; simp; omega), b_grown (b_call HBW.out HB8.out) (gb_set3 _ _ _ _ _) (by omega)⟩)
set_option maxRecDepth 100000 in
set_option maxHeartbeats 2000000 in
theorem vobjects19 (x a b : Int) (B : Nat) (w : World) : Calls Try.prog 129 #[.agg #[.int .i64 19, .int .u64 x, .int .i64 a, .int .i64 b]] w (RetF B w ⟨[2, 2], [], 0⟩) := by
  go_enter Try.func129, Try.ntmps129
  go_upto_region 1 with fail
  refine wp_named ?_
  intro W hW
  obtain ⟨q0, q1, qb⟩ := boxes2 w #[.int .i64 19, .int .u64 x, .int .i64 a, .int .i64 b] #[.slice none 0 0, .slice none 0 0, .int .i64 0] 123 179
  rw [← hW] at q0 q1 qb
  have HBW := Lib.hid qb
  have HK : Hid (∀ w', Below W.heap.size W w' → w'.cell? ⟨w.heap.size, 0, none⟩ = some (.int .i64 19) ∧ w'.cell? ⟨w.heap.size, 1, none⟩ = some (.int .u64 x) ∧ w'.cell? ⟨w.heap.size, 2, none⟩ = some (.int .i64 a) ∧ w'.cell? ⟨w.heap.size, 3, none⟩ = some (.int .i64 b) ∧ w'.cell? ⟨w.heap.size + 1, 0, none⟩ = some (.slice none 0 0) ∧ w'.cell? ⟨w.heap.size + 1, 1, none⟩ = some (.slice none 0 0) ∧ w'.cell? ⟨w.heap.size + 1, 2, none⟩ = some (.int .i64 0) ∧ (∀ i, w'.frozen? ⟨w.heap.size + 1, i, none⟩ = false) ∧ w.heap.size < w'.heap.size ∧ w.heap.size + 1 < w'.heap.size) := Lib.hid (fun w' hb => by
    have k0 := blk_below q0 hb
    obtain ⟨x0_0, x0_1, x0_2, x0_3, f0⟩ := blk4 k0
    have z0 := k0.1
    have k1 := blk_below q1 hb
    obtain ⟨x1_0, x1_1, x1_2, f1⟩ := v_blk3 k1
    have z1 := k1.1
    exact ⟨x0_0, x0_1, x0_2, x0_3, x1_0, x1_1, x1_2, f1, z0, z1⟩)
  clear hW qb q0 q1
  have HBI : Hid (Below W.heap.size W W) := Below.refl _ _
  obtain ⟨c0_0, c0_1, c0_2, c0_3, c1_0, c1_1, c1_2, cf, s0, s1⟩ := HK.out W HBI.out
  go_wp2_with fail
  refine (vof_any _ _ _ _ _ _ _).mono ?_
  rintro e w8 ⟨rfl, hb8⟩
  have HB8 := Lib.hid (b_call (b_alloc HBI.out _) hb8)
  clear c0_0 c0_1 c0_2 c0_3 c1_0 c1_1 c1_2 cf s0 s1
  have HC := Lib.hid hb8
  clear hb8
  obtain ⟨c0_0, c0_1, c0_2, c0_3, c1_0, c1_1, c1_2, cf, s0, s1⟩ := HK.out w8 HB8.out
  have HS := Lib.hid (HK.out _ HBI.out)
  unfold aggD
  go_wp2_with fail
  have hx : w.heap.size + 1 < W.heap.size := by have := HS.out; omega
  exact bodyPost_ret (v := .agg #[.slice (some ⟨W.heap.size, 0, none⟩) 2 2, .slice none 0 0, .int .i64 0]) (by simp [results, Try.results129, go_sem, c1_0, c1_1, c1_2]) rfl (by
    show RetF _ _ _ _ _
    exact ⟨_, _, _, _, rfl, lit_far (w2 := W) [2, 2] rfl (by simp) HC.out (gb_set3 _ _ _ _ _) hx, readI_nil _, far_new (by have := (b_call HBW.out HBI.out).size; omega), far_nil _ _ _ _ _, b_grown (b_call HBW.out HB8.out) (gb_set3 _ _ _ _ _) (by omega)⟩)
set_option maxRecDepth 100000 in
set_option maxHeartbeats 2000000 in
theorem vobjects20 (x a b : Int) (B : Nat) (w : World) : Calls Try.prog 129 #[.agg #[.int .i64 20, .int .u64 x, .int .i64 a, .int .i64 b]] w (RetF B w ⟨[2], [0], 0⟩) := by
  go_enter Try.func129, Try.ntmps129
  go_upto_region 1 with fail
  refine wp_named ?_
  intro W hW
  obtain ⟨q0, q1, qb⟩ := boxes2 w #[.int .i64 20, .int .u64 x, .int .i64 a, .int .i64 b] #[.slice none 0 0, .slice none 0 0, .int .i64 0] 123 179
  rw [← hW] at q0 q1 qb
  have HBW := Lib.hid qb
  have HK : Hid (∀ w', Below W.heap.size W w' → w'.cell? ⟨w.heap.size, 0, none⟩ = some (.int .i64 20) ∧ w'.cell? ⟨w.heap.size, 1, none⟩ = some (.int .u64 x) ∧ w'.cell? ⟨w.heap.size, 2, none⟩ = some (.int .i64 a) ∧ w'.cell? ⟨w.heap.size, 3, none⟩ = some (.int .i64 b) ∧ w'.cell? ⟨w.heap.size + 1, 0, none⟩ = some (.slice none 0 0) ∧ w'.cell? ⟨w.heap.size + 1, 1, none⟩ = some (.slice none 0 0) ∧ w'.cell? ⟨w.heap.size + 1, 2, none⟩ = some (.int .i64 0) ∧ (∀ i, w'.frozen? ⟨w.heap.size + 1, i, none⟩ = false) ∧ w.heap.size < w'.heap.size ∧ w.heap.size + 1 < w'.heap.size) := Lib.hid (fun w' hb => by
    have k0 := blk_below q0 hb
    obtain ⟨x0_0, x0_1, x0_2, x0_3, f0⟩ := blk4 k0
    have z0 := k0.1
    have k1 := blk_below q1 hb
    obtain ⟨x1_0, x1_1, x1_2, f1⟩ := v_blk3 k1
    have z1 := k1.1
    exact ⟨x0_0, x0_1, x0_2, x0_3, x1_0, x1_1, x1_2, f1, z0, z1⟩)
  clear hW qb q0 q1
  have HBI : Hid (Below W.heap.size W W) := Below.refl _ _
  obtain ⟨c0_0, c0_1, c0_2, c0_3, c1_0, c1_1, c1_2, cf, s0, s1⟩ := HK.out W HBI.out
  go_wp2_with fail
  refine (vof_any _ _ _ _ _ _ _).mono ?_
  rintro e w8 ⟨rfl, hb8⟩
  have HB8 := Lib.hid (b_call (b_alloc (b_alloc HBI.out _) _) hb8)
  clear c0_0 c0_1 c0_2 c0_3 c1_0 c1_1 c1_2 cf s0 s1
  have HC := Lib.hid hb8
  clear hb8
  obtain ⟨c0_0, c0_1, c0_2, c0_3, c1_0, c1_1, c1_2, cf, s0, s1⟩ := HK.out w8 HB8.out
  have HS := Lib.hid (HK.out _ HBI.out)
  unfold aggD
  go_wp2_with fail
  have hx : w.heap.size + 1 < W.heap.size := by have := HS.out; omega
  exact bodyPost_ret (v := .agg #[.slice (some ⟨W.heap.size, 0, none⟩) 1 1, .slice (some ⟨W.heap.size + 1, 0, none⟩) 1 1, .int .i64 0]) (by simp [results, Try.results129, go_sem, c1_0, c1_1, c1_2]) rfl (by
    show RetF _ _ _ _ _
    exact ⟨_, _, _, _, rfl, lit_far (w2 := W) [2] rfl (by simp) (b_call (b_alloc (Below.refl _ _) _) HC.out) (gb_set3 _ _ _ _ _) hx, lit_far (w2 := (W.alloc (.cells #[.int .i64 2] 3))) [0] (by simp) (by simp) HC.out (gb_set3 _ _ _ _ _) (by simp; omega), far_new (by have := (b_call HBW.out HBI.out).size; omega), far_new (by have := (b_call HBW.out HBI.out).size; simp; omega), b_grown (b_call HBW.out HB8.out) (gb_set3 _ _ _ _ _) (by omega)⟩)
set_option maxRecDepth 100000 in
set_option maxHeartbeats 2000000 in
theorem vobjects21 (x a b : Int) (B : Nat) (w : World) : Calls Try.prog 129 #[.agg #[.int .i64 21, .int .u64 x, .int .i64 a, .int .i64 b]] w (RetF B w ⟨[2, 0], [], 0⟩) := by
  go_enter Try.func129, Try.ntmps129
  go_upto_region 1 with fail
  refine wp_named ?_
  intro W hW
  obtain ⟨q0, q1, qb⟩ := boxes2 w #[.int .i64 21, .int .u64 x, .int .i64 a, .int .i64 b] #[.slice none 0 0, .slice none 0 0, .int .i64 0] 123 179
  rw [← hW] at q0 q1 qb
  have HBW := Lib.hid qb
  have HK : Hid (∀ w', Below W.heap.size W w' → w'.cell? ⟨w.heap.size, 0, none⟩ = some (.int .i64 21) ∧ w'.cell? ⟨w.heap.size, 1, none⟩ = some (.int .u64 x) ∧ w'.cell? ⟨w.heap.size, 2, none⟩ = some (.int .i64 a) ∧ w'.cell? ⟨w.heap.size, 3, none⟩ = some (.int .i64 b) ∧ w'.cell? ⟨w.heap.size + 1, 0, none⟩ = some (.slice none 0 0) ∧ w'.cell? ⟨w.heap.size + 1, 1, none⟩ = some (.slice none 0 0) ∧ w'.cell? ⟨w.heap.size + 1, 2, none⟩ = some (.int .i64 0) ∧ (∀ i, w'.frozen? ⟨w.heap.size + 1, i, none⟩ = false) ∧ w.heap.size < w'.heap.size ∧ w.heap.size + 1 < w'.heap.size) := Lib.hid (fun w' hb => by
    have k0 := blk_below q0 hb
    obtain ⟨x0_0, x0_1, x0_2, x0_3, f0⟩ := blk4 k0
    have z0 := k0.1
    have k1 := blk_below q1 hb
    obtain ⟨x1_0, x1_1, x1_2, f1⟩ := v_blk3 k1
    have z1 := k1.1
    exact ⟨x0_0, x0_1, x0_2, x0_3, x1_0, x1_1, x1_2, f1, z0, z1⟩)
  clear hW qb q0 q1
  have HBI : Hid (Below W.heap.size W W) := Below.refl _ _
  obtain ⟨c0_0, c0_1, c0_2, c0_3, c1_0, c1_1, c1_2, cf, s0, s1⟩ := HK.out W HBI.out
  go_wp2_with fail
  refine (vof_any _ _ _ _ _ _ _).mono ?_
  rintro e w8 ⟨rfl, hb8⟩
  have HB8 := Lib.hid (b_call (b_alloc HBI.out _) hb8)
  clear c0_0 c0_1 c0_2 c0_3 c1_0 c1_1 c1_2 cf s0 s1
  have HC := Lib.hid hb8
  clear hb8
  obtain ⟨c0_0, c0_1, c0_2, c0_3, c1_0, c1_1, c1_2, cf, s0, s1⟩ := HK.out w8 HB8.out
  have HS := Lib.hid (HK.out _ HBI.out)
  unfold aggD
  go_wp2_with fail
  have hx : w.heap.size + 1 < W.heap.size := by have := HS.out; omega
  exact bodyPost_ret (v := .agg #[.slice (some ⟨W.heap.size, 0, none⟩) 2 2, .slice none 0 0, .int .i64 0]) (by simp [results, Try.results129, go_sem, c1_0, c1_1, c1_2]) rfl (by
    show RetF _ _ _ _ _
    exact ⟨_, _, _, _, rfl, lit_far (w2 := W) [2, 0] rfl (by simp) HC.out (gb_set3 _ _ _ _ _) hx, readI_nil _, far_new (by have := (b_call HBW.out HBI.out).size; omega), far_nil _ _ _ _ _, b_grown (b_call HBW.out HB8.out) (gb_set3 _ _ _ _ _) (by omega)⟩)
set_option maxRecDepth 100000 in
set_option maxHeartbeats 2000000 in
theorem vobjects22 (x a b : Int) (B : Nat) (w : World) : Calls Try.prog 129 #[.agg #[.int .i64 22, .int .u64 x, .int .i64 a, .int .i64 b]] w (RetF B w ⟨[2], [0], 0⟩) := by
  go_enter Try.func129, Try.ntmps129
  go_upto_region 1 with fail
  refine wp_named ?_
  intro W hW
  obtain ⟨q0, q1, qb⟩ := boxes2 w #[.int .i64 22, .int .u64 x, .int .i64 a, .int .i64 b] #[.slice none 0 0, .slice none 0 0, .int .i64 0] 123 179
  rw [← hW] at q0 q1 qb
  have HBW := Lib.hid qb
  have HK : Hid (∀ w', Below W.heap.size W w' → w'.cell? ⟨w.heap.size, 0, none⟩ = some (.int .i64 22) ∧ w'.cell? ⟨w.heap.size, 1, none⟩ = some (.int .u64 x) ∧ w'.cell? ⟨w.heap.size, 2, none⟩ = some (.int .i64 a) ∧ w'.cell? ⟨w.heap.size, 3, none⟩ = some (.int .i64 b) ∧ w'.cell? ⟨w.heap.size + 1, 0, none⟩ = some (.slice none 0 0) ∧ w'.cell? ⟨w.heap.size + 1, 1, none⟩ = some (.slice none 0 0) ∧ w'.cell? ⟨w.heap.size + 1, 2, none⟩ = some (.int .i64 0) ∧ (∀ i, w'.frozen? ⟨w.heap.size + 1, i, none⟩ = false) ∧ w.heap.size < w'.heap.size ∧ w.heap.size + 1 < w'.heap.size) := Lib.hid (fun w' hb => by
    have k0 := blk_below q0 hb
    obtain ⟨x0_0, x0_1, x0_2, x0_3, f0⟩ := blk4 k0
    have z0 := k0.1
    have k1 := blk_below q1 hb
    obtain ⟨x1_0, x1_1, x1_2, f1⟩ := v_blk3 k1
    have z1 := k1.1
    exact ⟨x0_0, x0_1, x0_2, x0_3, x1_0, x1_1, x1_2, f1, z0, z1⟩)
  clear hW qb q0 q1
  have HBI : Hid (Below W.heap.size W W) := Below.refl _ _
  obtain ⟨c0_0, c0_1, c0_2, c0_3, c1_0, c1_1, c1_2, cf, s0, s1⟩ := HK.out W HBI.out
  go_wp2_with fail
  refine (vof_any _ _ _ _ _ _ _).mono ?_
  rintro e w8 ⟨rfl, hb8⟩
  have HB8 := Lib.hid (b_call (b_alloc (b_alloc HBI.out _) _) hb8)
  clear c0_0 c0_1 c0_2 c0_3 c1_0 c1_1 c1_2 cf s0 s1
  have HC := Lib.hid hb8
  clear hb8
  obtain ⟨c0_0, c0_1, c0_2, c0_3, c1_0, c1_1, c1_2, cf, s0, s1⟩ := HK.out w8 HB8.out
  have HS := Lib.hid (HK.out _ HBI.out)
  unfold aggD
  go_wp2_with fail
  have hx : w.heap.size + 1 < W.heap.size := by have := HS.out; omega
  exact bodyPost_ret (v := .agg #[.slice (some ⟨W.heap.size, 0, none⟩) 1 1, .slice (some ⟨W.heap.size + 1, 0, none⟩) 1 1, .int .i64 0]) (by simp [results, Try.results129, go_sem, c1_0, c1_1, c1_2]) rfl (by
    show RetF _ _ _ _ _
    exact ⟨_, _, _, _, rfl, lit_far (w2 := W) [2] rfl (by simp) (b_call (b_alloc (Below.refl _ _) _) HC.out) (gb_set3 _ _ _ _ _) hx, lit_far (w2 := (W.alloc (.cells #[.int .i64 2] 3))) [0] (by simp) (by simp) HC.out (gb_set3 _ _ _ _ _) (by simp; omega), far_new (by have := (b_call HBW.out HBI.out).size; omega), far_new (by have := (b_call HBW.out HBI.out).size; simp; omega), b_grown (b_call HBW.out HB8.out) (gb_set3 _ _ _ _ _) (by omega)⟩)
set_option maxRecDepth 100000 in
set_option maxHeartbeats 2000000 in
theorem vobjects17 (x a b : Int) (B : Nat) (w : World) : Calls Try.prog 129 #[.agg #[.int .i64 17, .int .u64 x, .int .i64 a, .int .i64 b]] w (RetF B w (ifNamed (okS a b) ⟨[], [2], 0⟩)) := by
  have HO := Lib.hid (obytes_any a b)
  obtain ⟨q, hq⟩ : ∃ q, q = okS a b := ⟨_, rfl⟩
  have HQ := Lib.hid hq
  generalize bytS a b = y at *
  rw [← hq] at *
  clear hq
  go_enter Try.func129, Try.ntmps129
  go_upto_region 1 with fail
  refine wp_named ?_
  intro W hW
  obtain ⟨q0, q1, qb⟩ := boxes2 w #[.int .i64 17, .int .u64 x, .int .i64 a, .int .i64 b] #[.slice none 0 0, .slice none 0 0, .int .i64 0] 123 179
  rw [← hW] at q0 q1 qb
  have HBW := Lib.hid qb
  have HK : Hid (∀ w', Below W.heap.size W w' → w'.cell? ⟨w.heap.size, 0, none⟩ = some (.int .i64 17) ∧ w'.cell? ⟨w.heap.size, 1, none⟩ = some (.int .u64 x) ∧ w'.cell? ⟨w.heap.size, 2, none⟩ = some (.int .i64 a) ∧ w'.cell? ⟨w.heap.size, 3, none⟩ = some (.int .i64 b) ∧ w'.cell? ⟨w.heap.size + 1, 0, none⟩ = some (.slice none 0 0) ∧ w'.cell? ⟨w.heap.size + 1, 1, none⟩ = some (.slice none 0 0) ∧ w'.cell? ⟨w.heap.size + 1, 2, none⟩ = some (.int .i64 0) ∧ (∀ i, w'.frozen? ⟨w.heap.size + 1, i, none⟩ = false) ∧ w.heap.size < w'.heap.size ∧ w.heap.size + 1 < w'.heap.size) := Lib.hid (fun w' hb => by
    have k0 := blk_below q0 hb
    obtain ⟨x0_0, x0_1, x0_2, x0_3, f0⟩ := blk4 k0
    have z0 := k0.1
    have k1 := blk_below q1 hb
    obtain ⟨x1_0, x1_1, x1_2, f1⟩ := v_blk3 k1
    have z1 := k1.1
    exact ⟨x0_0, x0_1, x0_2, x0_3, x1_0, x1_1, x1_2, f1, z0, z1⟩)
  clear hW qb q0 q1
  have HBI : Hid (Below W.heap.size W W) := Below.refl _ _
  obtain ⟨c0_0, c0_1, c0_2, c0_3, c1_0, c1_1, c1_2, cf, s0, s1⟩ := HK.out W HBI.out
  go_wp2_with fail
  refine (HO.out _).mono ?_
  rintro e w2 ⟨rfl, hb2⟩
  have HB2 := Lib.hid hb2
  clear hb2
  clear c0_0 c0_1 c0_2 c0_3 c1_0 c1_1 c1_2 cf s0 s1
  obtain ⟨c0_0, c0_1, c0_2, c0_3, c1_0, c1_1, c1_2, cf, s0, s1⟩ := HK.out w2 HB2.out
  cases q
  · have D : Hid (ifNamed false ⟨[], [2], 0⟩ = bad 5) := Lib.hid rfl
    go_wp2_with fail
    refine (vof_any _ _ _ _ _ _ _).mono ?_
    rintro e w8 ⟨rfl, hb8⟩
    have HB8 := Lib.hid (b_call (b_alloc HB2.out _) hb8)
    clear c0_0 c0_1 c0_2 c0_3 c1_0 c1_1 c1_2 cf s0 s1
    clear hb8
    go_wp2_with fail
    refine (vnamed_f _ _ _ _ _ _ _ _).mono ?_
    rintro e w9 ⟨rfl, hb9⟩
    have HB9 := Lib.hid (b_call HB8.out hb9)
    clear hb9
    obtain ⟨c0_0, c0_1, c0_2, c0_3, c1_0, c1_1, c1_2, cf, s0, s1⟩ := HK.out w9 HB9.out
    unfold aggD
    go_wp2_with fail
    exact bodyPost_ret (v := .agg #[.slice none 0 0, .slice none 0 0, .int .i64 5]) (by simp [results, Try.results129, go_sem, c1_0, c1_1, c1_2]) rfl (by
      show RetF _ _ _ _ _
      exact ⟨_, _, _, _, rfl, readI_nil _, readI_nil _, far_nil _ _ _ _ _, far_nil _ _ _ _ _, b_grown (b_call HBW.out HB9.out) (gb_set3 _ _ _ _ _) (by omega)⟩)
  · skip
    go_wp2_with fail
    refine (vof_any _ _ _ _ _ _ _).mono ?_
    rintro e w8 ⟨rfl, hb8⟩
    have HB8 := Lib.hid (b_call (b_alloc HB2.out _) hb8)
    clear c0_0 c0_1 c0_2 c0_3 c1_0 c1_1 c1_2 cf s0 s1
    go_wp2_with fail
    refine (vnamed_t _ _ _ _ _ _ _ _).mono ?_
    rintro e w9 ⟨rfl, hb9⟩
    have HB9 := Lib.hid (b_call HB8.out hb9)
    have HC : Hid (Below (w2.alloc (.cells #[.int .i64 2] 3)).heap.size (w2.alloc (.cells #[.int .i64 2] 3)) w9) := Lib.hid (b_call hb8 hb9)
    clear hb8 hb9
    obtain ⟨c0_0, c0_1, c0_2, c0_3, c1_0, c1_1, c1_2, cf, s0, s1⟩ := HK.out w9 HB9.out
    have HS := Lib.hid (HK.out _ HB2.out)
    unfold aggD
    go_wp2_with fail
    have hx : w.heap.size + 1 < w2.heap.size := by have := HS.out; omega
    exact bodyPost_ret (v := .agg #[.slice none 0 0, .slice (some ⟨w2.heap.size, 0, none⟩) 1 1, .int .i64 0]) (by simp [results, Try.results129, go_sem, c1_0, c1_1, c1_2]) rfl (by
      show RetF _ _ _ _ _
      exact ⟨_, _, _, _, rfl, readI_nil _, lit_far (w2 := w2) [2] rfl (by simp) HC.out (gb_set3 _ _ _ _ _) hx, far_nil _ _ _ _ _, far_new (by have := (b_call HBW.out HB2.out).size; omega), b_grown (b_call HBW.out HB9.out) (gb_set3 _ _ _ _ _) (by omega)⟩)
set_option maxRecDepth 100000 in
set_option maxHeartbeats 2000000 in
theorem vblocks23 (u : Bool) (ga : Option Addr) (gn gc : Nat) (m : Int) (fa : Option Addr) (fn fc : Nat) (x a b : Int) (B : Nat) (w : World) : Calls Try.prog 130 #[.agg #[.bool u, .slice ga gn gc, .int .i64 m, .slice fa fn fc], .agg #[.int .i64 23, .int .u64 x, .int .i64 a, .int .i64 b]] w (RetF B w ⟨[0], [3], 0⟩) := by
  go_enter Try.func130, Try.ntmps130
  go_upto_region 1 with fail
  refine wp_named ?_
  intro W hW
  obtain ⟨q0, q1, q2, qb⟩ := boxes3 w #[.bool u, .slice ga gn gc, .int .i64 m, .slice fa fn fc] #[.int .i64 23, .int .u64 x, .int .i64 a, .int .i64 b] #[.slice none 0 0, .slice none 0 0, .int .i64 0] 31 123 179
  rw [← hW] at q0 q1 q2 qb
  have HBW := Lib.hid qb
  have HK : Hid (∀ w', Below W.heap.size W w' → w'.cell? ⟨w.heap.size, 0, none⟩ = some (.bool u) ∧ w'.cell? ⟨w.heap.size, 1, none⟩ = some (.slice ga gn gc) ∧ w'.cell? ⟨w.heap.size, 2, none⟩ = some (.int .i64 m) ∧ w'.cell? ⟨w.heap.size, 3, none⟩ = some (.slice fa fn fc) ∧ w'.cell? ⟨w.heap.size + 1, 0, none⟩ = some (.int .i64 23) ∧ w'.cell? ⟨w.heap.size + 1, 1, none⟩ = some (.int .u64 x) ∧ w'.cell? ⟨w.heap.size + 1, 2, none⟩ = some (.int .i64 a) ∧ w'.cell? ⟨w.heap.size + 1, 3, none⟩ = some (.int .i64 b) ∧ w'.cell? ⟨w.heap.size + 2, 0, none⟩ = some (.slice none 0 0) ∧ w'.cell? ⟨w.heap.size + 2, 1, none⟩ = some (.slice none 0 0) ∧ w'.cell? ⟨w.heap.size + 2, 2, none⟩ = some (.int .i64 0) ∧ (∀ i, w'.frozen? ⟨w.heap.size + 2, i, none⟩ = false) ∧ w.heap.size < w'.heap.size ∧ w.heap.size + 1 < w'.heap.size ∧ w.heap.size + 1 + 1 < w'.heap.size) := Lib.hid (fun w' hb => by
    have k0 := blk_below q0 hb
    obtain ⟨x0_0, x0_1, x0_2, x0_3, f0⟩ := blk4 k0
    have z0 := k0.1
    have k1 := blk_below q1 hb
    obtain ⟨x1_0, x1_1, x1_2, x1_3, f1⟩ := blk4 k1
    have z1 := k1.1
    have k2 := blk_below q2 hb
    obtain ⟨x2_0, x2_1, x2_2, f2⟩ := v_blk3 k2
    have z2 := k2.1
    exact ⟨x0_0, x0_1, x0_2, x0_3, x1_0, x1_1, x1_2, x1_3, x2_0, x2_1, x2_2, f2, z0, z1, z2⟩)
  clear hW qb q0 q1 q2
  have HBI : Hid (Below W.heap.size W W) := Below.refl _ _
  obtain ⟨c0_0, c0_1, c0_2, c0_3, c1_0, c1_1, c1_2, c1_3, c2_0, c2_1, c2_2, cf, s0, s1, s2⟩ := HK.out W HBI.out
  go_wp2_with fail
  refine (vof_any _ _ _ _ _ _ _).mono ?_
  rintro e w8 ⟨rfl, hb8⟩
  have HB8 := Lib.hid (b_call (b_alloc (b_alloc HBI.out _) _) hb8)
  clear c0_0 c0_1 c0_2 c0_3 c1_0 c1_1 c1_2 c1_3 c2_0 c2_1 c2_2 cf s0 s1 s2
  have HC := Lib.hid hb8
  clear hb8
  obtain ⟨c0_0, c0_1, c0_2, c0_3, c1_0, c1_1, c1_2, c1_3, c2_0, c2_1, c2_2, cf, s0, s1, s2⟩ := HK.out w8 HB8.out
  have HS := Lib.hid (HK.out _ HBI.out)
  unfold aggD
  go_wp2_with fail
  have hx : w.heap.size + 2 < W.heap.size := by have := HS.out; omega
  exact bodyPost_ret (v := .agg #[.slice (some ⟨W.heap.size, 0, none⟩) 1 1, .slice (some ⟨W.heap.size + 1, 0, none⟩) 1 1, .int .i64 0]) (by simp [results, Try.results130, go_sem, c2_0, c2_1, c2_2]) rfl (by
    show RetF _ _ _ _ _
    exact ⟨_, _, _, _, rfl, lit_far (w2 := W) [0] rfl (by simp) (b_call (b_alloc (Below.refl _ _) _) HC.out) (gb_set3 _ _ _ _ _) hx, lit_far (w2 := (W.alloc (.cells #[.int .i64 0] 3))) [3] (by simp) (by simp) HC.out (gb_set3 _ _ _ _ _) (by simp; omega), far_new (by have := (b_call HBW.out HBI.out).size; omega), far_new (by have := (b_call HBW.out HBI.out).size; simp; omega), b_grown (b_call HBW.out HB8.out) (gb_set3 _ _ _ _ _) (by omega)⟩)
set_option maxRecDepth 100000 in
set_option maxHeartbeats 2000000 in
theorem vblocks24 (u : Bool) (ga : Option Addr) (gn gc : Nat) (m : Int) (fa : Option Addr) (fn fc : Nat) (x a b : Int) (B : Nat) (w : World) : Calls Try.prog 130 #[.agg #[.bool u, .slice ga gn gc, .int .i64 m, .slice fa fn fc], .agg #[.int .i64 24, .int .u64 x, .int .i64 a, .int .i64 b]] w (RetF B w ⟨[3], [0], 0⟩) := by
  go_enter Try.func130, Try.ntmps130
  go_upto_region 1 with fail
  refine wp_named ?_
  intro W hW
  obtain ⟨q0, q1, q2, qb⟩ := boxes3 w #[.bool u, .slice ga gn gc, .int .i64 m, .slice fa fn fc] #[.int .i64 24, .int .u64 x, .int .i64 a, .int .i64 b] #[.slice none 0 0, .slice none 0 0, .int .i64 0] 31 123 179
  rw [← hW] at q0 q1 q2 qb
  have HBW := Lib.hid qb
  have HK : Hid (∀ w', Below W.heap.size W w' → w'.cell? ⟨w.heap.size, 0, none⟩ = some (.bool u) ∧ w'.cell? ⟨w.heap.size, 1, none⟩ = some (.slice ga gn gc) ∧ w'.cell? ⟨w.heap.size, 2, none⟩ = some (.int .i64 m) ∧ w'.cell? ⟨w.heap.size, 3, none⟩ = some (.slice fa fn fc) ∧ w'.cell? ⟨w.heap.size + 1, 0, none⟩ = some (.int .i64 24) ∧ w'.cell? ⟨w.heap.size + 1, 1, none⟩ = some (.int .u64 x) ∧ w'.cell? ⟨w.heap.size + 1, 2, none⟩ = some (.int .i64 a) ∧ w'.cell? ⟨w.heap.size + 1, 3, none⟩ = some (.int .i64 b) ∧ w'.cell? ⟨w.heap.size + 2, 0, none⟩ = some (.slice none 0 0) ∧ w'.cell? ⟨w.heap.size + 2, 1, none⟩ = some (.slice none 0 0) ∧ w'.cell? ⟨w.heap.size + 2, 2, none⟩ = some (.int .i64 0) ∧ (∀ i, w'.frozen? ⟨w.heap.size + 2, i, none⟩ = false) ∧ w.heap.size < w'.heap.size ∧ w.heap.size + 1 < w'.heap.size ∧ w.heap.size + 1 + 1 < w'.heap.size) := Lib.hid (fun w' hb => by
    have k0 := blk_below q0 hb
    obtain ⟨x0_0, x0_1, x0_2, x0_3, f0⟩ := blk4 k0
    have z0 := k0.1
    have k1 := blk_below q1 hb
    obtain ⟨x1_0, x1_1, x1_2, x1_3, f1⟩ := blk4 k1
    have z1 := k1.1
    have k2 := blk_below q2 hb
    obtain ⟨x2_0, x2_1, x2_2, f2⟩ := v_blk3 k2
    have z2 := k2.1
    exact ⟨x0_0, x0_1, x0_2, x0_3, x1_0, x1_1, x1_2, x1_3, x2_0, x2_1, x2_2, f2, z0, z1, z2⟩)
  clear hW qb q0 q1 q2
  have HBI : Hid (Below W.heap.size W W) := Below.refl _ _
  obtain ⟨c0_0, c0_1, c0_2, c0_3, c1_0, c1_1, c1_2, c1_3, c2_0, c2_1, c2_2, cf, s0, s1, s2⟩ := HK.out W HBI.out
  go_wp2_with fail
  refine (vof_any _ _ _ _ _ _ _).mono ?_
  rintro e w8 ⟨rfl, hb8⟩
  have HB8 := Lib.hid (b_call (b_alloc (b_alloc HBI.out _) _) hb8)
  clear c0_0 c0_1 c0_2 c0_3 c1_0 c1_1 c1_2 c1_3 c2_0 c2_1 c2_2 cf s0 s1 s2
  have HC := Lib.hid hb8
  clear hb8
  obtain ⟨c0_0, c0_1, c0_2, c0_3, c1_0, c1_1, c1_2, c1_3, c2_0, c2_1, c2_2, cf, s0, s1, s2⟩ := HK.out w8 HB8.out
  have HS := Lib.hid (HK.out _ HBI.out)
  unfold aggD
  go_wp2_with fail
  have hx : w.heap.size + 2 < W.heap.size := by have := HS.out; omega
  exact bodyPost_ret (v := .agg #[.slice (some ⟨W.heap.size, 0, none⟩) 1 1, .slice (some ⟨W.heap.size + 1, 0, none⟩) 1 1, .int .i64 0]) (by simp [results, Try.results130, go_sem, c2_0, c2_1, c2_2]) rfl (by
    show RetF _ _ _ _ _
    exact ⟨_, _, _, _, rfl, lit_far (w2 := W) [3] rfl (by simp) (b_call (b_alloc (Below.refl _ _) _) HC.out) (gb_set3 _ _ _ _ _) hx, lit_far (w2 := (W.alloc (.cells #[.int .i64 3] 3))) [0] (by simp) (by simp) HC.out (gb_set3 _ _ _ _ _) (by simp; omega), far_new (by have := (b_call HBW.out HBI.out).size; omega), far_new (by have := (b_call HBW.out HBI.out).size; simp; omega), b_grown (b_call HBW.out HB8.out) (gb_set3 _ _ _ _ _) (by omega)⟩)
set_option maxRecDepth 100000 in
set_option maxHeartbeats 2000000 in
theorem vblocks25 (u : Bool) (ga : Option Addr) (gn gc : Nat) (m : Int) (fa : Option Addr) (fn fc : Nat) (x a b : Int) (B : Nat) (w : World) : Calls Try.prog 130 #[.agg #[.bool u, .slice ga gn gc, .int .i64 m, .slice fa fn fc], .agg #[.int .i64 25, .int .u64 x, .int .i64 a, .int .i64 b]] w (RetF B w ⟨[3], [0], 0⟩) := by
  go_enter Try.func130, Try.ntmps130
  go_upto_region 1 with fail
  refine wp_named ?_
  intro W hW
  obtain ⟨q0, q1, q2, qb⟩ := boxes3 w #[.bool u, .slice ga gn gc, .int .i64 m, .slice fa fn fc] #[.int .i64 25, .int .u64 x, .int .i64 a, .int .i64 b] #[.slice none 0 0, .slice none 0 0, .int .i64 0] 31 123 179
  rw [← hW] at q0 q1 q2 qb
  have HBW := Lib.hid qb
  have HK : Hid (∀ w', Below W.heap.size W w' → w'.cell? ⟨w.heap.size, 0, none⟩ = some (.bool u) ∧ w'.cell? ⟨w.heap.size, 1, none⟩ = some (.slice ga gn gc) ∧ w'.cell? ⟨w.heap.size, 2, none⟩ = some (.int .i64 m) ∧ w'.cell? ⟨w.heap.size, 3, none⟩ = some (.slice fa fn fc) ∧ w'.cell? ⟨w.heap.size + 1, 0, none⟩ = some (.int .i64 25) ∧ w'.cell? ⟨w.heap.size + 1, 1, none⟩ = some (.int .u64 x) ∧ w'.cell? ⟨w.heap.size + 1, 2, none⟩ = some (.int .i64 a) ∧ w'.cell? ⟨w.heap.size + 1, 3, none⟩ = some (.int .i64 b) ∧ w'.cell? ⟨w.heap.size + 2, 0, none⟩ = some (.slice none 0 0) ∧ w'.cell? ⟨w.heap.size + 2, 1, none⟩ = some (.slice none 0 0) ∧ w'.cell? ⟨w.heap.size + 2, 2, none⟩ = some (.int .i64 0) ∧ (∀ i, w'.frozen? ⟨w.heap.size + 2, i, none⟩ = false) ∧ w.heap.size < w'.heap.size ∧ w.heap.size + 1 < w'.heap.size ∧ w.heap.size + 1 + 1 < w'.heap.size) := Lib.hid (fun w' hb => by
    have k0 := blk_below q0 hb
    obtain ⟨x0_0, x0_1, x0_2, x0_3, f0⟩ := blk4 k0
    have z0 := k0.1
    have k1 := blk_below q1 hb
    obtain ⟨x1_0, x1_1, x1_2, x1_3, f1⟩ := blk4 k1
    have z1 := k1.1
    have k2 := blk_below q2 hb
    obtain ⟨x2_0, x2_1, x2_2, f2⟩ := v_blk3 k2
    have z2 := k2.1
    exact ⟨x0_0, x0_1, x0_2, x0_3, x1_0, x1_1, x1_2, x1_3, x2_0, x2_1, x2_2, f2, z0, z1, z2⟩)
  clear hW qb q0 q1 q2
  have HBI : Hid (Below W.heap.size W W) := Below.refl _ _
  obtain ⟨c0_0, c0_1, c0_2, c0_3, c1_0, c1_1, c1_2, c1_3, c2_0, c2_1, c2_2, cf, s0, s1, s2⟩ := HK.out W HBI.out
  go_wp2_with fail
  refine (vof_any _ _ _ _ _ _ _).mono ?_
  rintro e w8 ⟨rfl, hb8⟩
  have HB8 := Lib.hid (b_call (b_alloc (b_alloc HBI.out _) _) hb8)
  clear c0_0 c0_1 c0_2 c0_3 c1_0 c1_1 c1_2 c1_3 c2_0 c2_1 c2_2 cf s0 s1 s2
  have HC := Lib.hid hb8
  clear hb8
  obtain ⟨c0_0, c0_1, c0_2, c0_3, c1_0, c1_1, c1_2, c1_3, c2_0, c2_1, c2_2, cf, s0, s1, s2⟩ := HK.out w8 HB8.out
  have HS := Lib.hid (HK.out _ HBI.out)
  unfold aggD
  go_wp2_with fail
  have hx : w.heap.size + 2 < W.heap.size := by have := HS.out; omega
  exact bodyPost_ret (v := .agg #[.slice (some ⟨W.heap.size, 0, none⟩) 1 1, .slice (some ⟨W.heap.size + 1, 0, none⟩) 1 1, .int .i64 0]) (by simp [results, Try.results130, go_sem, c2_0, c2_1, c2_2]) rfl (by
    show RetF _ _ _ _ _
    exact ⟨_, _, _, _, rfl, lit_far (w2 := W) [3] rfl (by simp) (b_call (b_alloc (Below.refl _ _) _) HC.out) (gb_set3 _ _ _ _ _) hx, lit_far (w2 := (W.alloc (.cells #[.int .i64 3] 3))) [0] (by simp) (by simp) HC.out (gb_set3 _ _ _ _ _) (by simp; omega), far_new (by have := (b_call HBW.out HBI.out).size; omega), far_new (by have := (b_call HBW.out HBI.out).size; simp; omega), b_grown (b_call HBW.out HB8.out) (gb_set3 _ _ _ _ _) (by omega)⟩)
set_option maxRecDepth 100000 in
set_option maxHeartbeats 2000000 in
theorem vblocks26 (u : Bool) (ga : Option Addr) (gn gc : Nat) (m : Int) (fa : Option Addr) (fn fc : Nat) (x a b : Int) (B : Nat) (w : World) : Calls Try.prog 130 #[.agg #[.bool u, .slice ga gn gc, .int .i64 m, .slice fa fn fc], .agg #[.int .i64 26, .int .u64 x, .int .i64 a, .int .i64 b]] w (RetF B w ⟨[3, 0], [], 0⟩) := by
  go_enter Try.func130, Try.ntmps130
  go_upto_region 1 with fail
  refine wp_named ?_
  intro W hW
  obtain ⟨q0, q1, q2, qb⟩ := boxes3 w #[.bool u, .slice ga gn gc, .int .i64 m, .slice fa fn fc] #[.int .i64 26, .int .u64 x, .int .i64 a, .int .i64 b] #[.slice none 0 0, .slice none 0 0, .int .i64 0] 31 123 179
  rw [← hW] at q0 q1 q2 qb
  have HBW := Lib.hid qb
  have HK : Hid (∀ w', Below W.heap.size W w' → w'.cell? ⟨w.heap.size, 0, none⟩ = some (.bool u) ∧ w'.cell? ⟨w.heap.size, 1, none⟩ = some (.slice ga gn gc) ∧ w'.cell? ⟨w.heap.size, 2, none⟩ = some (.int .i64 m) ∧ w'.cell? ⟨w.heap.size, 3, none⟩ = some (.slice fa fn fc) ∧ w'.cell? ⟨w.heap.size + 1, 0, none⟩ = some (.int .i64 26) ∧ w'.cell? ⟨w.heap.size + 1, 1, none⟩ = some (.int .u64 x) ∧ w'.cell? ⟨w.heap.size + 1, 2, none⟩ = some (.int .i64 a) ∧ w'.cell? ⟨w.heap.size + 1, 3, none⟩ = some (.int .i64 b) ∧ w'.cell? ⟨w.heap.size + 2, 0, none⟩ = some (.slice none 0 0) ∧ w'.cell? ⟨w.heap.size + 2, 1, none⟩ = some (.slice none 0 0) ∧ w'.cell? ⟨w.heap.size + 2, 2, none⟩ = some (.int .i64 0) ∧ (∀ i, w'.frozen? ⟨w.heap.size + 2, i, none⟩ = false) ∧ w.heap.size < w'.heap.size ∧ w.heap.size + 1 < w'.heap.size ∧ w.heap.size + 1 + 1 < w'.heap.size) := Lib.hid (fun w' hb => by
    have k0 := blk_below q0 hb
    obtain ⟨x0_0, x0_1, x0_2, x0_3, f0⟩ := blk4 k0
    have z0 := k0.1
    have k1 := blk_below q1 hb
    obtain ⟨x1_0, x1_1, x1_2, x1_3, f1⟩ := blk4 k1
    have z1 := k1.1
    have k2 := blk_below q2 hb
    obtain ⟨x2_0, x2_1, x2_2, f2⟩ := v_blk3 k2
    have z2 := k2.1
    exact ⟨x0_0, x0_1, x0_2, x0_3, x1_0, x1_1, x1_2, x1_3, x2_0, x2_1, x2_2, f2, z0, z1, z2⟩)
  clear hW qb q0 q1 q2
  have HBI : Hid (Below W.heap.size W W) := Below.refl _ _
  obtain ⟨c0_0, c0_1, c0_2, c0_3, c1_0, c1_1, c1_2, c1_3, c2_0, c2_1, c2_2, cf, s0, s1, s2⟩ := HK.out W HBI.out
  go_wp2_with fail
  refine (vof_any _ _ _ _ _ _ _).mono ?_
  rintro e w8 ⟨rfl, hb8⟩
  have HB8 := Lib.hid (b_call (b_alloc HBI.out _) hb8)
  clear c0_0 c0_1 c0_2 c0_3 c1_0 c1_1 c1_2 c1_3 c2_0 c2_1 c2_2 cf s0 s1 s2
  have HC := Lib.hid hb8
  clear hb8
  obtain ⟨c0_0, c0_1, c0_2, c0_3, c1_0, c1_1, c1_2, c1_3, c2_0, c2_1, c2_2, cf, s0, s1, s2⟩ := HK.out w8 HB8.out
  have HS := Lib.hid (HK.out _ HBI.out)
  unfold aggD
  go_wp2_with fail
  have hx : w.heap.size + 2 < W.heap.size := by have := HS.out; omega
  exact bodyPost_ret (v := .agg #[.slice (some ⟨W.heap.size, 0, none⟩) 2 2, .slice none 0 0, .int .i64 0]) (by simp [results, Try.results130, go_sem, c2_0, c2_1, c2_2]) rfl (by
    show RetF _ _ _ _ _
    exact ⟨_, _, _, _, rfl, lit_far (w2 := W) [3, 0] rfl (by simp) HC.out (gb_set3 _ _ _ _ _) hx, readI_nil _, far_new (by have := (b_call HBW.out HBI.out).size; omega), far_nil _ _ _ _ _, b_grown (b_call HBW.out HB8.out) (gb_set3 _ _ _ _ _) (by omega)⟩)
set_option maxRecDepth 100000 in
set_option maxHeartbeats 2000000 in
theorem vblocks27 (u : Bool) (ga : Option Addr) (gn gc : Nat) (m : Int) (fa : Option Addr) (fn fc : Nat) (x a b : Int) (B : Nat) (w : World) : Calls Try.prog 130 #[.agg #[.bool u, .slice ga gn gc, .int .i64 m, .slice fa fn fc], .agg #[.int .i64 27, .int .u64 x, .int .i64 a, .int .i64 b]] w (RetF B w ⟨[3], [0], 0⟩) := by
  go_enter Try.func130, Try.ntmps130
  go_upto_region 1 with fail
  refine wp_named ?_
  intro W hW
  obtain ⟨q0, q1, q2, qb⟩ := boxes3 w #[.bool u, .slice ga gn gc, .int .i64 m, .slice fa fn fc] #[.int .i64 27, .int .u64 x, .int .i64 a, .int .i64 b] #[.slice none 0 0, .slice none 0 0, .int .i64 0] 31 123 179
  rw [← hW] at q0 q1 q2 qb
  have HBW := Lib.hid qb
  have HK : Hid (∀ w', Below W.heap.size W w' → w'.cell? ⟨w.heap.size, 0, none⟩ = some (.bool u) ∧ w'.cell? ⟨w.heap.size, 1, none⟩ = some (.slice ga gn gc) ∧ w'.cell? ⟨w.heap.size, 2, none⟩ = some (.int .i64 m) ∧ w'.cell? ⟨w.heap.size, 3, none⟩ = some (.slice fa fn fc) ∧ w'.cell? ⟨w.heap.size + 1, 0, none⟩ = some (.int .i64 27) ∧ w'.cell? ⟨w.heap.size + 1, 1, none⟩ = some (.int .u64 x) ∧ w'.cell? ⟨w.heap.size + 1, 2, none⟩ = some (.int .i64 a) ∧ w'.cell? ⟨w.heap.size + 1, 3, none⟩ = some (.int .i64 b) ∧ w'.cell? ⟨w.heap.size + 2, 0, none⟩ = some (.slice none 0 0) ∧ w'.cell? ⟨w.heap.size + 2, 1, none⟩ = some (.slice none 0 0) ∧ w'.cell? ⟨w.heap.size + 2, 2, none⟩ = some (.int .i64 0) ∧ (∀ i, w'.frozen? ⟨w.heap.size + 2, i, none⟩ = false) ∧ w.heap.size < w'.heap.size ∧ w.heap.size + 1 < w'.heap.size ∧ w.heap.size + 1 + 1 < w'.heap.size) := Lib.hid (fun w' hb => by
    have k0 := blk_below q0 hb
    obtain ⟨x0_0, x0_1, x0_2, x0_3, f0⟩ := blk4 k0
    have z0 := k0.1
    have k1 := blk_below q1 hb
    obtain ⟨x1_0, x1_1, x1_2, x1_3, f1⟩ := blk4 k1
    have z1 := k1.1
    have k2 := blk_below q2 hb
    obtain ⟨x2_0, x2_1, x2_2, f2⟩ := v_blk3 k2
    have z2 := k2.1
    exact ⟨x0_0, x0_1, x0_2, x0_3, x1_0, x1_1, x1_2, x1_3, x2_0, x2_1, x2_2, f2, z0, z1, z2⟩)
  clear hW qb q0 q1 q2
  have HBI : Hid (Below W.heap.size W W) := Below.refl _ _
  obtain ⟨c0_0, c0_1, c0_2, c0_3, c1_0, c1_1, c1_2, c1_3, c2_0, c2_1, c2_2, cf, s0, s1, s2⟩ := HK.out W HBI.out
  go_wp2_with fail
  refine (vof_any _ _ _ _ _ _ _).mono ?_
  rintro e w8 ⟨rfl, hb8⟩
  have HB8 := Lib.hid (b_call (b_alloc (b_alloc HBI.out _) _) hb8)
  clear c0_0 c0_1 c0_2 c0_3 c1_0 c1_1 c1_2 c1_3 c2_0 c2_1 c2_2 cf s0 s1 s2
  have HC := Lib.hid hb8
  clear hb8
  obtain ⟨c0_0, c0_1, c0_2, c0_3, c1_0, c1_1, c1_2, c1_3, c2_0, c2_1, c2_2, cf, s0, s1, s2⟩ := HK.out w8 HB8.out
  have HS := Lib.hid (HK.out _ HBI.out)
  unfold aggD
  go_wp2_with fail
  have hx : w.heap.size + 2 < W.heap.size := by have := HS.out; omega
  exact bodyPost_ret (v := .agg #[.slice (some ⟨W.heap.size, 0, none⟩) 1 1, .slice (some ⟨W.heap.size + 1, 0, none⟩) 1 1, .int .i64 0]) (by simp [results, Try.results130, go_sem, c2_0, c2_1, c2_2]) rfl (by
    show RetF _ _ _ _ _
    exact ⟨_, _, _, _, rfl, lit_far (w2 := W) [3] rfl (by simp) (b_call (b_alloc (Below.refl _ _) _) HC.out) (gb_set3 _ _ _ _ _) hx, lit_far (w2 := (W.alloc (.cells #[.int .i64 3] 3))) [0] (by simp) (by simp) HC.out (gb_set3 _ _ _ _ _) (by simp; omega), far_new (by have := (b_call HBW.out HBI.out).size; omega), far_new (by have := (b_call HBW.out HBI.out).size; simp; omega), b_grown (b_call HBW.out HB8.out) (gb_set3 _ _ _ _ _) (by omega)⟩)
set_option maxRecDepth 100000 in
set_option maxHeartbeats 2000000 in
theorem vblocks36 (u : Bool) (ga : Option Addr) (gn gc : Nat) (m : Int) (fa : Option Addr) (fn fc : Nat) (x a b : Int) (B : Nat) (w : World) : Calls Try.prog 130 #[.agg #[.bool u, .slice ga gn gc, .int .i64 m, .slice fa fn fc], .agg #[.int .i64 36, .int .u64 x, .int .i64 a, .int .i64 b]] w (RetF B w (if u = true then ⟨[0], [3], 0⟩ else bad 8)) := by
  cases u
  · show Calls _ _ _ _ (RetF B w (bad 8))
    go_enter Try.func130, Try.ntmps130
    go_upto_region 1 with fail
    refine wp_named ?_
    intro W hW
    obtain ⟨q0, q1, q2, qb⟩ := boxes3 w #[.bool false, .slice ga gn gc, .int .i64 m, .slice fa fn fc] #[.int .i64 36, .int .u64 x, .int .i64 a, .int .i64 b] #[.slice none 0 0, .slice none 0 0, .int .i64 0] 31 123 179
    rw [← hW] at q0 q1 q2 qb
    have HBW := Lib.hid qb
    have HK : Hid (∀ w', Below W.heap.size W w' → w'.cell? ⟨w.heap.size, 0, none⟩ = some (.bool false) ∧ w'.cell? ⟨w.heap.size, 1, none⟩ = some (.slice ga gn gc) ∧ w'.cell? ⟨w.heap.size, 2, none⟩ = some (.int .i64 m) ∧ w'.cell? ⟨w.heap.size, 3, none⟩ = some (.slice fa fn fc) ∧ w'.cell? ⟨w.heap.size + 1, 0, none⟩ = some (.int .i64 36) ∧ w'.cell? ⟨w.heap.size + 1, 1, none⟩ = some (.int .u64 x) ∧ w'.cell? ⟨w.heap.size + 1, 2, none⟩ = some (.int .i64 a) ∧ w'.cell? ⟨w.heap.size + 1, 3, none⟩ = some (.int .i64 b) ∧ w'.cell? ⟨w.heap.size + 2, 0, none⟩ = some (.slice none 0 0) ∧ w'.cell? ⟨w.heap.size + 2, 1, none⟩ = some (.slice none 0 0) ∧ w'.cell? ⟨w.heap.size + 2, 2, none⟩ = some (.int .i64 0) ∧ (∀ i, w'.frozen? ⟨w.heap.size + 2, i, none⟩ = false) ∧ w.heap.size < w'.heap.size ∧ w.heap.size + 1 < w'.heap.size ∧ w.heap.size + 1 + 1 < w'.heap.size) := Lib.hid (fun w' hb => by
      have k0 := blk_below q0 hb
      obtain ⟨x0_0, x0_1, x0_2, x0_3, f0⟩ := blk4 k0
      have z0 := k0.1
      have k1 := blk_below q1 hb
      obtain ⟨x1_0, x1_1, x1_2, x1_3, f1⟩ := blk4 k1
      have z1 := k1.1
      have k2 := blk_below q2 hb
      obtain ⟨x2_0, x2_1, x2_2, f2⟩ := v_blk3 k2
      have z2 := k2.1
      exact ⟨x0_0, x0_1, x0_2, x0_3, x1_0, x1_1, x1_2, x1_3, x2_0, x2_1, x2_2, f2, z0, z1, z2⟩)
    clear hW qb q0 q1 q2
    have HBI : Hid (Below W.heap.size W W) := Below.refl _ _
    obtain ⟨c0_0, c0_1, c0_2, c0_3, c1_0, c1_1, c1_2, c1_3, c2_0, c2_1, c2_2, cf, s0, s1, s2⟩ := HK.out W HBI.out
    go_wp2_with fail
    refine (vwrong_any _ _).mono ?_
    rintro e w9 ⟨rfl, hb9⟩
    have HB9 := Lib.hid (b_call HBI.out hb9)
    clear c0_0 c0_1 c0_2 c0_3 c1_0 c1_1 c1_2 c1_3 c2_0 c2_1 c2_2 cf s0 s1 s2
    clear hb9
    obtain ⟨c0_0, c0_1, c0_2, c0_3, c1_0, c1_1, c1_2, c1_3, c2_0, c2_1, c2_2, cf, s0, s1, s2⟩ := HK.out w9 HB9.out
    unfold aggD
    go_wp2_with fail
    exact bodyPost_ret (v := .agg #[.slice none 0 0, .slice none 0 0, .int .i64 8]) (by simp [results, Try.results130, go_sem, c2_0, c2_1, c2_2]) rfl (by
      show RetF _ _ _ _ _
      exact ⟨_, _, _, _, rfl, readI_nil _, readI_nil _, far_nil _ _ _ _ _, far_nil _ _ _ _ _, b_grown (b_call HBW.out HB9.out) (gb_set3 _ _ _ _ _) (by omega)⟩)
  · show Calls _ _ _ _ (RetF B w ⟨[0], [3], 0⟩)
    go_enter Try.func130, Try.ntmps130
    go_upto_region 1 with fail
    refine wp_named ?_
    intro W hW
    obtain ⟨q0, q1, q2, qb⟩ := boxes3 w #[.bool true, .slice ga gn gc, .int .i64 m, .slice fa fn fc] #[.int .i64 36, .int .u64 x, .int .i64 a, .int .i64 b] #[.slice none 0 0, .slice none 0 0, .int .i64 0] 31 123 179
    rw [← hW] at q0 q1 q2 qb
    have HBW := Lib.hid qb
    have HK : Hid (∀ w', Below W.heap.size W w' → w'.cell? ⟨w.heap.size, 0, none⟩ = some (.bool true) ∧ w'.cell? ⟨w.heap.size, 1, none⟩ = some (.slice ga gn gc) ∧ w'.cell? ⟨w.heap.size, 2, none⟩ = some (.int .i64 m) ∧ w'.cell? ⟨w.heap.size, 3, none⟩ = some (.slice fa fn fc) ∧ w'.cell? ⟨w.heap.size + 1, 0, none⟩ = some (.int .i64 36) ∧ w'.cell? ⟨w.heap.size + 1, 1, none⟩ = some (.int .u64 x) ∧ w'.cell? ⟨w.heap.size + 1, 2, none⟩ = some (.int .i64 a) ∧ w'.cell? ⟨w.heap.size + 1, 3, none⟩ = some (.int .i64 b) ∧ w'.cell? ⟨w.heap.size + 2, 0, none⟩ = some (.slice none 0 0) ∧ w'.cell? ⟨w.heap.size + 2, 1, none⟩ = some (.slice none 0 0) ∧ w'.cell? ⟨w.heap.size + 2, 2, none⟩ = some (.int .i64 0) ∧ (∀ i, w'.frozen? ⟨w.heap.size + 2, i, none⟩ = false) ∧ w.heap.size < w'.heap.size ∧ w.heap.size + 1 < w'.heap.size ∧ w.heap.size + 1 + 1 < w'.heap.size) := Lib.hid (fun w' hb => by
      have k0 := blk_below q0 hb
      obtain ⟨x0_0, x0_1, x0_2, x0_3, f0⟩ := blk4 k0
      have z0 := k0.1
      have k1 := blk_below q1 hb
      obtain ⟨x1_0, x1_1, x1_2, x1_3, f1⟩ := blk4 k1
      have z1 := k1.1
      have k2 := blk_below q2 hb
      obtain ⟨x2_0, x2_1, x2_2, f2⟩ := v_blk3 k2
      have z2 := k2.1
      exact ⟨x0_0, x0_1, x0_2, x0_3, x1_0, x1_1, x1_2, x1_3, x2_0, x2_1, x2_2, f2, z0, z1, z2⟩)
    clear hW qb q0 q1 q2
    have HBI : Hid (Below W.heap.size W W) := Below.refl _ _
    obtain ⟨c0_0, c0_1, c0_2, c0_3, c1_0, c1_1, c1_2, c1_3, c2_0, c2_1, c2_2, cf, s0, s1, s2⟩ := HK.out W HBI.out
    go_wp2_with fail
    refine (vof_any _ _ _ _ _ _ _).mono ?_
    rintro e w8 ⟨rfl, hb8⟩
    have HB8 := Lib.hid (b_call (b_alloc (b_alloc HBI.out _) _) hb8)
    clear c0_0 c0_1 c0_2 c0_3 c1_0 c1_1 c1_2 c1_3 c2_0 c2_1 c2_2 cf s0 s1 s2
    have HC := Lib.hid hb8
    clear hb8
    obtain ⟨c0_0, c0_1, c0_2, c0_3, c1_0, c1_1, c1_2, c1_3, c2_0, c2_1, c2_2, cf, s0, s1, s2⟩ := HK.out w8 HB8.out
    have HS := Lib.hid (HK.out _ HBI.out)
    unfold aggD
    go_wp2_with fail
    have hx : w.heap.size + 2 < W.heap.size := by have := HS.out; omega
    exact bodyPost_ret (v := .agg #[.slice (some ⟨W.heap.size, 0, none⟩) 1 1, .slice (some ⟨W.heap.size + 1, 0, none⟩) 1 1, .int .i64 0]) (by simp [results, Try.results130, go_sem, c2_0, c2_1, c2_2]) rfl (by
      show RetF _ _ _ _ _
      exact ⟨_, _, _, _, rfl, lit_far (w2 := W) [0] rfl (by simp) (b_call (b_alloc (Below.refl _ _) _) HC.out) (gb_set3 _ _ _ _ _) hx, lit_far (w2 := (W.alloc (.cells #[.int .i64 0] 3))) [3] (by simp) (by simp) HC.out (gb_set3 _ _ _ _ _) (by simp; omega), far_new (by have := (b_call HBW.out HBI.out).size; omega), far_new (by have := (b_call HBW.out HBI.out).size; simp; omega), b_grown (b_call HBW.out HB8.out) (gb_set3 _ _ _ _ _) (by omega)⟩)
end
section
open Go.RowKit
set_option linter.unusedVariables false
set_option linter.unusedSimpArgs false
attribute [local go_sem] over_cell over_frozen
set_option maxRecDepth 100000 in
set_option maxHeartbeats 2000000 in
theorem vreckons10 (x a b : Int) (B : Nat) (w : World) : Calls Try.prog 127 #[.agg #[.int .i64 10, .int .u64 x, .int .i64 a, .int .i64 b]] w (RetF B w (ifNamed (decide (0 ≤ utO a)) ⟨[utO a], [ugO a], 0⟩)) := by
  have HO := Lib.hid (ukinds_any a)
  obtain ⟨y, hy⟩ : ∃ y : Int, y = if utO a = 1 then 1 else 0 := ⟨_, rfl⟩
  have HY : Hid (0 ≤ utO a → y = utO a) := Lib.hid (by rw [hy]; unfold utO; (repeat' split) <;> omega)
  rw [← hy] at HO
  clear hy
  generalize utO a = z at *
  generalize ugO a = g at *
  obtain ⟨q, hq⟩ : ∃ q, q = decide (0 ≤ z) := ⟨_, rfl⟩
  rw [← hq]
  rw [← hq] at HO
  have HQ := Lib.hid hq
  clear hq
  go_enter Try.func127, Try.ntmps127
  go_upto_region 1 with fail
  refine wp_named ?_
  intro W hW
  obtain ⟨q0, q1, qb⟩ := boxes2 w #[.int .i64 10, .int .u64 x, .int .i64 a, .int .i64 b] #[.slice none 0 0, .slice none 0 0, .int .i64 0] 123 179
  rw [← hW] at q0 q1 qb
  have HBW := Lib.hid qb
  have HK : Hid (∀ w', Below W.heap.size W w' → w'.cell? ⟨w.heap.size, 0, none⟩ = some (.int .i64 10) ∧ w'.cell? ⟨w.heap.size, 1, none⟩ = some (.int .u64 x) ∧ w'.cell? ⟨w.heap.size, 2, none⟩ = some (.int .i64 a) ∧ w'.cell? ⟨w.heap.size, 3, none⟩ = some (.int .i64 b) ∧ w'.cell? ⟨w.heap.size + 1, 0, none⟩ = some (.slice none 0 0) ∧ w'.cell? ⟨w.heap.size + 1, 1, none⟩ = some (.slice none 0 0) ∧ w'.cell? ⟨w.heap.size + 1, 2, none⟩ = some (.int .i64 0) ∧ (∀ i, w'.frozen? ⟨w.heap.size + 1, i, none⟩ = false) ∧ w.heap.size < w'.heap.size ∧ w.heap.size + 1 < w'.heap.size) := Lib.hid (fun w' hb => by
    have k0 := blk_below q0 hb
    obtain ⟨x0_0, x0_1, x0_2, x0_3, f0⟩ := blk4 k0
    have z0 := k0.1
    have k1 := blk_below q1 hb
    obtain ⟨x1_0, x1_1, x1_2, f1⟩ := v_blk3 k1
    have z1 := k1.1
    exact ⟨x0_0, x0_1, x0_2, x0_3, x1_0, x1_1, x1_2, f1, z0, z1⟩)
  clear hW qb q0 q1
  have HBI : Hid (Below W.heap.size W W) := Below.refl _ _
  obtain ⟨c0_0, c0_1, c0_2, c0_3, c1_0, c1_1, c1_2, cf, s0, s1⟩ := HK.out W HBI.out
  go_wp2_with fail
  refine (HO.out _).mono ?_
  rintro e w2 ⟨rfl, hb2⟩
  have HB2 := Lib.hid hb2
  clear hb2
  clear c0_0 c0_1 c0_2 c0_3 c1_0 c1_1 c1_2 cf s0 s1
  obtain ⟨c0_0, c0_1, c0_2, c0_3, c1_0, c1_1, c1_2, cf, s0, s1⟩ := HK.out w2 HB2.out
  cases q
  · have D : Hid (ifNamed false ⟨[z], [g], 0⟩ = bad 5) := Lib.hid rfl
    go_wp2_with fail
    refine (vof_any _ _ _ _ _ _ _).mono ?_
    rintro e w8 ⟨rfl, hb8⟩
    have HB8 := Lib.hid (b_call (b_alloc (b_alloc HB2.out _) _) hb8)
    clear c0_0 c0_1 c0_2 c0_3 c1_0 c1_1 c1_2 cf s0 s1
    clear hb8
    go_wp2_with fail
    refine (vnamed_f _ _ _ _ _ _ _ _).mono ?_
    rintro e w9 ⟨rfl, hb9⟩
    have HB9 := Lib.hid (b_call HB8.out hb9)
    clear hb9
    obtain ⟨c0_0, c0_1, c0_2, c0_3, c1_0, c1_1, c1_2, cf, s0, s1⟩ := HK.out w9 HB9.out
    unfold aggD
    go_wp2_with fail
    exact bodyPost_ret (v := .agg #[.slice none 0 0, .slice none 0 0, .int .i64 5]) (by simp [results, Try.results127, go_sem, c1_0, c1_1, c1_2]) rfl (by
      show RetF _ _ _ _ _
      exact ⟨_, _, _, _, rfl, readI_nil _, readI_nil _, far_nil _ _ _ _ _, far_nil _ _ _ _ _, b_grown (b_call HBW.out HB9.out) (gb_set3 _ _ _ _ _) (by omega)⟩)
  · have e := HY.out (of_decide_eq_true HQ.out.symm)
    subst e
    clear HQ HY
    go_wp2_with fail
    refine (vof_any _ _ _ _ _ _ _).mono ?_
    rintro e w8 ⟨rfl, hb8⟩
    have HB8 := Lib.hid (b_call (b_alloc (b_alloc HB2.out _) _) hb8)
    clear c0_0 c0_1 c0_2 c0_3 c1_0 c1_1 c1_2 cf s0 s1
    go_wp2_with fail
    refine (vnamed_t _ _ _ _ _ _ _ _).mono ?_
    rintro e w9 ⟨rfl, hb9⟩
    have HB9 := Lib.hid (b_call HB8.out hb9)
    have HC : Hid (Below ((w2.alloc (.cells #[.int .i64 y] 3)).alloc (.cells #[.int .i64 g] 3)).heap.size ((w2.alloc (.cells #[.int .i64 y] 3)).alloc (.cells #[.int .i64 g] 3)) w9) := Lib.hid (b_call hb8 hb9)
    clear hb8 hb9
    obtain ⟨c0_0, c0_1, c0_2, c0_3, c1_0, c1_1, c1_2, cf, s0, s1⟩ := HK.out w9 HB9.out
    have HS := Lib.hid (HK.out _ HB2.out)
    unfold aggD
    go_wp2_with fail
    have hx : w.heap.size + 1 < w2.heap.size := by have := HS.out; omega
    exact bodyPost_ret (v := .agg #[.slice (some ⟨w2.heap.size, 0, none⟩) 1 1, .slice (some ⟨w2.heap.size + 1, 0, none⟩) 1 1, .int .i64 0]) (by simp [results, Try.results127, go_sem, c1_0, c1_1, c1_2]) rfl (by
      show RetF _ _ _ _ _
      exact ⟨_, _, _, _, rfl, lit_far (w2 := w2) [y] rfl (by simp) (b_call (b_alloc (Below.refl _ _) _) HC.out) (gb_set3 _ _ _ _ _) hx, lit_far (w2 := (w2.alloc (.cells #[.int .i64 y] 3))) [g] (by simp) (by simp) HC.out (gb_set3 _ _ _ _ _) (by simp; omega), far_new (by have := (b_call HBW.out HB2.out).size; omega), far_new (by have := (b_call HBW.out HB2.out).size; simp; omega), b_grown (b_call HBW.out HB9.out) (gb_set3 _ _ _ _ _) (by omega)⟩)
set_option maxRecDepth 100000 in
set_option maxHeartbeats 2000000 in
theorem vreckons11 (x a b : Int) (B : Nat) (w : World) : Calls Try.prog 127 #[.agg #[.int .i64 11, .int .u64 x, .int .i64 a, .int .i64 b]] w (RetF B w (ifNamed (decide (0 ≤ takesO a)) ⟨[takesO a, takesO a], [givesO a], 0⟩)) := by
  have HO := Lib.hid (bkinds_any a)
  obtain ⟨y, hy⟩ : ∃ y : Int, y = if takesO a = 1 then 1 else 0 := ⟨_, rfl⟩
  have HY : Hid (0 ≤ takesO a → y = takesO a) := Lib.hid (by rw [hy]; unfold takesO; (repeat' split) <;> omega)
  rw [← hy] at HO
  clear hy
  generalize takesO a = z at *
  generalize givesO a = g at *
  obtain ⟨q, hq⟩ : ∃ q, q = decide (0 ≤ z) := ⟨_, rfl⟩
  rw [← hq]
  rw [← hq] at HO
  have HQ := Lib.hid hq
  clear hq
  go_enter Try.func127, Try.ntmps127
  go_upto_region 1 with fail
  refine wp_named ?_
  intro W hW
  obtain ⟨q0, q1, qb⟩ := boxes2 w #[.int .i64 11, .int .u64 x, .int .i64 a, .int .i64 b] #[.slice none 0 0, .slice none 0 0, .int .i64 0] 123 179
  rw [← hW] at q0 q1 qb
  have HBW := Lib.hid qb
  have HK : Hid (∀ w', Below W.heap.size W w' → w'.cell? ⟨w.heap.size, 0, none⟩ = some (.int .i64 11) ∧ w'.cell? ⟨w.heap.size, 1, none⟩ = some (.int .u64 x) ∧ w'.cell? ⟨w.heap.size, 2, none⟩ = some (.int .i64 a) ∧ w'.cell? ⟨w.heap.size, 3, none⟩ = some (.int .i64 b) ∧ w'.cell? ⟨w.heap.size + 1, 0, none⟩ = some (.slice none 0 0) ∧ w'.cell? ⟨w.heap.size + 1, 1, none⟩ = some (.slice none 0 0) ∧ w'.cell? ⟨w.heap.size + 1, 2, none⟩ = some (.int .i64 0) ∧ (∀ i, w'.frozen? ⟨w.heap.size + 1, i, none⟩ = false) ∧ w.heap.size < w'.heap.size ∧ w.heap.size + 1 < w'.heap.size) := Lib.hid (fun w' hb => by
    have k0 := blk_below q0 hb
    obtain ⟨x0_0, x0_1, x0_2, x0_3, f0⟩ := blk4 k0
    have z0 := k0.1
    have k1 := blk_below q1 hb
    obtain ⟨x1_0, x1_1, x1_2, f1⟩ := v_blk3 k1
    have z1 := k1.1
    exact ⟨x0_0, x0_1, x0_2, x0_3, x1_0, x1_1, x1_2, f1, z0, z1⟩)
  clear hW qb q0 q1
  have HBI : Hid (Below W.heap.size W W) := Below.refl _ _
  obtain ⟨c0_0, c0_1, c0_2, c0_3, c1_0, c1_1, c1_2, cf, s0, s1⟩ := HK.out W HBI.out
  go_wp2_with fail
  refine (HO.out _).mono ?_
  rintro e w2 ⟨rfl, hw2⟩
  have HB2 : Hid (Below W.heap.size W w2) := by subst hw2; exact HBI
  clear hw2
  clear c0_0 c0_1 c0_2 c0_3 c1_0 c1_1 c1_2 cf s0 s1
  obtain ⟨c0_0, c0_1, c0_2, c0_3, c1_0, c1_1, c1_2, cf, s0, s1⟩ := HK.out w2 HB2.out
  cases q
  · have D : Hid (ifNamed false ⟨[z, z], [g], 0⟩ = bad 5) := Lib.hid rfl
    go_wp2_with fail
    refine (vof_any _ _ _ _ _ _ _).mono ?_
    rintro e w8 ⟨rfl, hb8⟩
    have HB8 := Lib.hid (b_call (b_alloc (b_alloc HB2.out _) _) hb8)
    clear c0_0 c0_1 c0_2 c0_3 c1_0 c1_1 c1_2 cf s0 s1
    clear hb8
    go_wp2_with fail
    refine (vnamed_f _ _ _ _ _ _ _ _).mono ?_
    rintro e w9 ⟨rfl, hb9⟩
    have HB9 := Lib.hid (b_call HB8.out hb9)
    clear hb9
    obtain ⟨c0_0, c0_1, c0_2, c0_3, c1_0, c1_1, c1_2, cf, s0, s1⟩ := HK.out w9 HB9.out
    unfold aggD
    go_wp2_with fail
    exact bodyPost_ret (v := .agg #[.slice none 0 0, .slice none 0 0, .int .i64 5]) (by simp [results, Try.results127, go_sem, c1_0, c1_1, c1_2]) rfl (by
      show RetF _ _ _ _ _
      exact ⟨_, _, _, _, rfl, readI_nil _, readI_nil _, far_nil _ _ _ _ _, far_nil _ _ _ _ _, b_grown (b_call HBW.out HB9.out) (gb_set3 _ _ _ _ _) (by omega)⟩)
  · have e := HY.out (of_decide_eq_true HQ.out.symm)
    subst e
    clear HQ HY
    go_wp2_with fail
    refine (vof_any _ _ _ _ _ _ _).mono ?_
    rintro e w8 ⟨rfl, hb8⟩
    have HB8 := Lib.hid (b_call (b_alloc (b_alloc HB2.out _) _) hb8)
    clear c0_0 c0_1 c0_2 c0_3 c1_0 c1_1 c1_2 cf s0 s1
    go_wp2_with fail
    refine (vnamed_t _ _ _ _ _ _ _ _).mono ?_
    rintro e w9 ⟨rfl, hb9⟩
    have HB9 := Lib.hid (b_call HB8.out hb9)
    have HC : Hid (Below ((w2.alloc (.cells #[.int .i64 y, .int .i64 y] 3)).alloc (.cells #[.int .i64 g] 3)).heap.size ((w2.alloc (.cells #[.int .i64 y, .int .i64 y] 3)).alloc (.cells #[.int .i64 g] 3)) w9) := Lib.hid (b_call hb8 hb9)
    clear hb8 hb9
    obtain ⟨c0_0, c0_1, c0_2, c0_3, c1_0, c1_1, c1_2, cf, s0, s1⟩ := HK.out w9 HB9.out
    have HS := Lib.hid (HK.out _ HB2.out)
    unfold aggD
    go_wp2_with fail
    have hx : w.heap.size + 1 < w2.heap.size := by have := HS.out; omega
    exact bodyPost_ret (v := .agg #[.slice (some ⟨w2.heap.size, 0, none⟩) 2 2, .slice (some ⟨w2.heap.size + 1, 0, none⟩) 1 1, .int .i64 0]) (by simp [results, Try.results127, go_sem, c1_0, c1_1, c1_2]) rfl (by
      show RetF _ _ _ _ _
      exact ⟨_, _, _, _, rfl, lit_far (w2 := w2) [y, y] rfl (by simp) (b_call (b_alloc (Below.refl _ _) _) HC.out) (gb_set3 _ _ _ _ _) hx, lit_far (w2 := (w2.alloc (.cells #[.int .i64 y, .int .i64 y] 3))) [g] (by simp) (by simp) HC.out (gb_set3 _ _ _ _ _) (by simp; omega), far_new (by have := (b_call HBW.out HB2.out).size; omega), far_new (by have := (b_call HBW.out HB2.out).size; simp; omega), b_grown (b_call HBW.out HB9.out) (gb_set3 _ _ _ _ _) (by omega)⟩)
end
end Go.Proofs.Ytdmidnmciaediaa
