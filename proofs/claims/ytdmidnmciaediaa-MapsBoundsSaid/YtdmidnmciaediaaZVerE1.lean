/- Layer 26: the program's deals, part 1. Conditions: those stated. -/
import Derived.Test.YtdmidnmciaediaaZVer5
import Derived.Test.YtdmidnmciaediaaZVer7
import Derived.Test.YtdmidnmciaediaaZHeldE
namespace Go.Proofs.Ytdmidnmciaediaa
open Go.RowKit
set_option linter.unusedVariables false
set_option linter.unusedSimpArgs false
attribute [local go_sem] over_cell over_frozen
set_option maxRecDepth 100000 in
set_option maxHeartbeats 2000000 in
theorem vdeals0 (p : PrV) (P : PrM) (v : FnV) (f : FnM) (x a b : Int) (W0 w : World) (h : ReadP W0 p P) (hb : Below W0.heap.size W0 w) (hs : SmallP P) (hf : DeepF W0 v f) (hsf : SmallF f) (ha : 0 ≤ a) : Calls Try.prog 110 #[aggP p, aggF v, .agg #[.int .i64 0, .int .u64 x, .int .i64 a, .int .i64 b]] w (RetF W0.heap.size w (⟨[], [], 0⟩)) := by
  obtain ⟨u, ⟨ga, gn, gc⟩, m, ⟨fa, fn, fc⟩⟩ := p
  obtain ⟨⟨pa, pn, pc⟩, ⟨la, ln, lc⟩, r, ⟨ca, cn, cc⟩⟩ := v
  unfold aggP aggF Sl.v
  simp only
  have HW0 := Lib.hid hb.size
  clear h hb hs hf hsf
  go_enter Try.func110, Try.ntmps110
  go_upto_region 1 with fail
  refine wp_named ?_
  intro W hW
  obtain ⟨q0, q1, q2, q3, qb⟩ := boxes4 w #[.bool u, .slice ga gn gc, .int .i64 m, .slice fa fn fc] #[.slice pa pn pc, .slice la ln lc, .int .i64 r, .slice ca cn cc] #[.int .i64 0, .int .u64 x, .int .i64 a, .int .i64 b] #[.slice none 0 0, .slice none 0 0, .int .i64 0] 31 122 123 179
  rw [← hW] at q0 q1 q2 q3 qb
  have HBW := Lib.hid qb
  have HK : Hid (∀ w', Below W.heap.size W w' → w'.cell? ⟨w.heap.size, 0, none⟩ = some (.bool u) ∧ w'.cell? ⟨w.heap.size, 1, none⟩ = some (.slice ga gn gc) ∧ w'.cell? ⟨w.heap.size, 2, none⟩ = some (.int .i64 m) ∧ w'.cell? ⟨w.heap.size, 3, none⟩ = some (.slice fa fn fc) ∧ w'.cell? ⟨w.heap.size + 1, 0, none⟩ = some (.slice pa pn pc) ∧ w'.cell? ⟨w.heap.size + 1, 1, none⟩ = some (.slice la ln lc) ∧ w'.cell? ⟨w.heap.size + 1, 2, none⟩ = some (.int .i64 r) ∧ w'.cell? ⟨w.heap.size + 1, 3, none⟩ = some (.slice ca cn cc) ∧ w'.cell? ⟨w.heap.size + 2, 0, none⟩ = some (.int .i64 0) ∧ w'.cell? ⟨w.heap.size + 2, 1, none⟩ = some (.int .u64 x) ∧ w'.cell? ⟨w.heap.size + 2, 2, none⟩ = some (.int .i64 a) ∧ w'.cell? ⟨w.heap.size + 2, 3, none⟩ = some (.int .i64 b) ∧ w'.cell? ⟨w.heap.size + 3, 0, none⟩ = some (.slice none 0 0) ∧ w'.cell? ⟨w.heap.size + 3, 1, none⟩ = some (.slice none 0 0) ∧ w'.cell? ⟨w.heap.size + 3, 2, none⟩ = some (.int .i64 0) ∧ (∀ i, w'.frozen? ⟨w.heap.size + 3, i, none⟩ = false) ∧ w.heap.size < w'.heap.size ∧ w.heap.size + 1 < w'.heap.size ∧ w.heap.size + 1 + 1 < w'.heap.size ∧ w.heap.size + 1 + 1 + 1 < w'.heap.size) := Lib.hid (fun w' hb => by
    have k0 := blk_below q0 hb
    obtain ⟨x0_0, x0_1, x0_2, x0_3, f0⟩ := blk4 k0
    have z0 := k0.1
    have k1 := blk_below q1 hb
    obtain ⟨x1_0, x1_1, x1_2, x1_3, f1⟩ := blk4 k1
    have z1 := k1.1
    have k2 := blk_below q2 hb
    obtain ⟨x2_0, x2_1, x2_2, x2_3, f2⟩ := blk4 k2
    have z2 := k2.1
    have k3 := blk_below q3 hb
    obtain ⟨x3_0, x3_1, x3_2, f3⟩ := v_blk3 k3
    have z3 := k3.1
    exact ⟨x0_0, x0_1, x0_2, x0_3, x1_0, x1_1, x1_2, x1_3, x2_0, x2_1, x2_2, x2_3, x3_0, x3_1, x3_2, f3, z0, z1, z2, z3⟩)
  clear hW qb q0 q1 q2 q3
  have HBI : Hid (Below W.heap.size W W) := Below.refl _ _
  obtain ⟨c0_0, c0_1, c0_2, c0_3, c1_0, c1_1, c1_2, c1_3, c2_0, c2_1, c2_2, c2_3, c3_0, c3_1, c3_2, cf, s0, s1, s2, s3⟩ := HK.out W HBI.out
  go_wp2_with fail
  refine (vof_any _ _ _ _ _ _ _).mono ?_
  rintro e w8 ⟨rfl, hb8⟩
  have HB8 := Lib.hid (b_call HBI.out hb8)
  clear c0_0 c0_1 c0_2 c0_3 c1_0 c1_1 c1_2 c1_3 c2_0 c2_1 c2_2 c2_3 c3_0 c3_1 c3_2 cf s0 s1 s2 s3
  have HC := Lib.hid hb8
  clear hb8
  obtain ⟨c0_0, c0_1, c0_2, c0_3, c1_0, c1_1, c1_2, c1_3, c2_0, c2_1, c2_2, c2_3, c3_0, c3_1, c3_2, cf, s0, s1, s2, s3⟩ := HK.out w8 HB8.out
  have HS := Lib.hid (HK.out _ HBI.out)
  unfold aggD
  go_wp2_with fail
  have hx : w.heap.size + 3 < W.heap.size := by have := HS.out; omega
  exact bodyPost_ret (v := .agg #[.slice none 0 0, .slice none 0 0, .int .i64 0]) (by simp [results, Try.results110, go_sem, c3_0, c3_1, c3_2]) rfl (by
    show RetF _ _ _ _ _
    exact ⟨_, _, _, _, rfl, readI_nil _, readI_nil _, far_nil _ _ _ _ _, far_nil _ _ _ _ _, b_grown (b_call HBW.out HB8.out) (gb_set3 _ _ _ _ _) (by omega)⟩)
set_option maxRecDepth 100000 in
set_option maxHeartbeats 2000000 in
theorem vdeals1 (p : PrV) (P : PrM) (v : FnV) (f : FnM) (x a b : Int) (W0 w : World) (h : ReadP W0 p P) (hb : Below W0.heap.size W0 w) (hs : SmallP P) (hf : DeepF W0 v f) (hsf : SmallF f) (ha : 0 ≤ a) : Calls Try.prog 110 #[aggP p, aggF v, .agg #[.int .i64 1, .int .u64 x, .int .i64 a, .int .i64 b]] w (RetF W0.heap.size w (⟨[], [0], 0⟩)) := by
  obtain ⟨u, ⟨ga, gn, gc⟩, m, ⟨fa, fn, fc⟩⟩ := p
  obtain ⟨⟨pa, pn, pc⟩, ⟨la, ln, lc⟩, r, ⟨ca, cn, cc⟩⟩ := v
  unfold aggP aggF Sl.v
  simp only
  have HW0 := Lib.hid hb.size
  clear h hb hs hf hsf
  go_enter Try.func110, Try.ntmps110
  go_upto_region 1 with fail
  refine wp_named ?_
  intro W hW
  obtain ⟨q0, q1, q2, q3, qb⟩ := boxes4 w #[.bool u, .slice ga gn gc, .int .i64 m, .slice fa fn fc] #[.slice pa pn pc, .slice la ln lc, .int .i64 r, .slice ca cn cc] #[.int .i64 1, .int .u64 x, .int .i64 a, .int .i64 b] #[.slice none 0 0, .slice none 0 0, .int .i64 0] 31 122 123 179
  rw [← hW] at q0 q1 q2 q3 qb
  have HBW := Lib.hid qb
  have HK : Hid (∀ w', Below W.heap.size W w' → w'.cell? ⟨w.heap.size, 0, none⟩ = some (.bool u) ∧ w'.cell? ⟨w.heap.size, 1, none⟩ = some (.slice ga gn gc) ∧ w'.cell? ⟨w.heap.size, 2, none⟩ = some (.int .i64 m) ∧ w'.cell? ⟨w.heap.size, 3, none⟩ = some (.slice fa fn fc) ∧ w'.cell? ⟨w.heap.size + 1, 0, none⟩ = some (.slice pa pn pc) ∧ w'.cell? ⟨w.heap.size + 1, 1, none⟩ = some (.slice la ln lc) ∧ w'.cell? ⟨w.heap.size + 1, 2, none⟩ = some (.int .i64 r) ∧ w'.cell? ⟨w.heap.size + 1, 3, none⟩ = some (.slice ca cn cc) ∧ w'.cell? ⟨w.heap.size + 2, 0, none⟩ = some (.int .i64 1) ∧ w'.cell? ⟨w.heap.size + 2, 1, none⟩ = some (.int .u64 x) ∧ w'.cell? ⟨w.heap.size + 2, 2, none⟩ = some (.int .i64 a) ∧ w'.cell? ⟨w.heap.size + 2, 3, none⟩ = some (.int .i64 b) ∧ w'.cell? ⟨w.heap.size + 3, 0, none⟩ = some (.slice none 0 0) ∧ w'.cell? ⟨w.heap.size + 3, 1, none⟩ = some (.slice none 0 0) ∧ w'.cell? ⟨w.heap.size + 3, 2, none⟩ = some (.int .i64 0) ∧ (∀ i, w'.frozen? ⟨w.heap.size + 3, i, none⟩ = false) ∧ w.heap.size < w'.heap.size ∧ w.heap.size + 1 < w'.heap.size ∧ w.heap.size + 1 + 1 < w'.heap.size ∧ w.heap.size + 1 + 1 + 1 < w'.heap.size) := Lib.hid (fun w' hb => by
    have k0 := blk_below q0 hb
    obtain ⟨x0_0, x0_1, x0_2, x0_3, f0⟩ := blk4 k0
    have z0 := k0.1
    have k1 := blk_below q1 hb
    obtain ⟨x1_0, x1_1, x1_2, x1_3, f1⟩ := blk4 k1
    have z1 := k1.1
    have k2 := blk_below q2 hb
    obtain ⟨x2_0, x2_1, x2_2, x2_3, f2⟩ := blk4 k2
    have z2 := k2.1
    have k3 := blk_below q3 hb
    obtain ⟨x3_0, x3_1, x3_2, f3⟩ := v_blk3 k3
    have z3 := k3.1
    exact ⟨x0_0, x0_1, x0_2, x0_3, x1_0, x1_1, x1_2, x1_3, x2_0, x2_1, x2_2, x2_3, x3_0, x3_1, x3_2, f3, z0, z1, z2, z3⟩)
  clear hW qb q0 q1 q2 q3
  have HBI : Hid (Below W.heap.size W W) := Below.refl _ _
  obtain ⟨c0_0, c0_1, c0_2, c0_3, c1_0, c1_1, c1_2, c1_3, c2_0, c2_1, c2_2, c2_3, c3_0, c3_1, c3_2, cf, s0, s1, s2, s3⟩ := HK.out W HBI.out
  go_wp2_with fail
  refine (vof_any _ _ _ _ _ _ _).mono ?_
  rintro e w8 ⟨rfl, hb8⟩
  have HB8 := Lib.hid (b_call (b_alloc HBI.out _) hb8)
  clear c0_0 c0_1 c0_2 c0_3 c1_0 c1_1 c1_2 c1_3 c2_0 c2_1 c2_2 c2_3 c3_0 c3_1 c3_2 cf s0 s1 s2 s3
  have HC := Lib.hid hb8
  clear hb8
  obtain ⟨c0_0, c0_1, c0_2, c0_3, c1_0, c1_1, c1_2, c1_3, c2_0, c2_1, c2_2, c2_3, c3_0, c3_1, c3_2, cf, s0, s1, s2, s3⟩ := HK.out w8 HB8.out
  have HS := Lib.hid (HK.out _ HBI.out)
  unfold aggD
  go_wp2_with fail
  have hx : w.heap.size + 3 < W.heap.size := by have := HS.out; omega
  exact bodyPost_ret (v := .agg #[.slice none 0 0, .slice (some ⟨W.heap.size, 0, none⟩) 1 1, .int .i64 0]) (by simp [results, Try.results110, go_sem, c3_0, c3_1, c3_2]) rfl (by
    show RetF _ _ _ _ _
    exact ⟨_, _, _, _, rfl, readI_nil _, lit_far (w2 := W) [0] rfl (by simp) HC.out (gb_set3 _ _ _ _ _) hx, far_nil _ _ _ _ _, far_new (by have := (b_call HBW.out HBI.out).size; omega), b_grown (b_call HBW.out HB8.out) (gb_set3 _ _ _ _ _) (by omega)⟩)
set_option maxRecDepth 100000 in
set_option maxHeartbeats 2000000 in
theorem vdeals2 (p : PrV) (P : PrM) (v : FnV) (f : FnM) (x a b : Int) (W0 w : World) (h : ReadP W0 p P) (hb : Below W0.heap.size W0 w) (hs : SmallP P) (hf : DeepF W0 v f) (hsf : SmallF f) (ha : 0 ≤ a) : Calls Try.prog 110 #[aggP p, aggF v, .agg #[.int .i64 2, .int .u64 x, .int .i64 a, .int .i64 b]] w (RetF W0.heap.size w (⟨[], [1], 0⟩)) := by
  obtain ⟨u, ⟨ga, gn, gc⟩, m, ⟨fa, fn, fc⟩⟩ := p
  obtain ⟨⟨pa, pn, pc⟩, ⟨la, ln, lc⟩, r, ⟨ca, cn, cc⟩⟩ := v
  unfold aggP aggF Sl.v
  simp only
  have HW0 := Lib.hid hb.size
  clear h hb hs hf hsf
  go_enter Try.func110, Try.ntmps110
  go_upto_region 1 with fail
  refine wp_named ?_
  intro W hW
  obtain ⟨q0, q1, q2, q3, qb⟩ := boxes4 w #[.bool u, .slice ga gn gc, .int .i64 m, .slice fa fn fc] #[.slice pa pn pc, .slice la ln lc, .int .i64 r, .slice ca cn cc] #[.int .i64 2, .int .u64 x, .int .i64 a, .int .i64 b] #[.slice none 0 0, .slice none 0 0, .int .i64 0] 31 122 123 179
  rw [← hW] at q0 q1 q2 q3 qb
  have HBW := Lib.hid qb
  have HK : Hid (∀ w', Below W.heap.size W w' → w'.cell? ⟨w.heap.size, 0, none⟩ = some (.bool u) ∧ w'.cell? ⟨w.heap.size, 1, none⟩ = some (.slice ga gn gc) ∧ w'.cell? ⟨w.heap.size, 2, none⟩ = some (.int .i64 m) ∧ w'.cell? ⟨w.heap.size, 3, none⟩ = some (.slice fa fn fc) ∧ w'.cell? ⟨w.heap.size + 1, 0, none⟩ = some (.slice pa pn pc) ∧ w'.cell? ⟨w.heap.size + 1, 1, none⟩ = some (.slice la ln lc) ∧ w'.cell? ⟨w.heap.size + 1, 2, none⟩ = some (.int .i64 r) ∧ w'.cell? ⟨w.heap.size + 1, 3, none⟩ = some (.slice ca cn cc) ∧ w'.cell? ⟨w.heap.size + 2, 0, none⟩ = some (.int .i64 2) ∧ w'.cell? ⟨w.heap.size + 2, 1, none⟩ = some (.int .u64 x) ∧ w'.cell? ⟨w.heap.size + 2, 2, none⟩ = some (.int .i64 a) ∧ w'.cell? ⟨w.heap.size + 2, 3, none⟩ = some (.int .i64 b) ∧ w'.cell? ⟨w.heap.size + 3, 0, none⟩ = some (.slice none 0 0) ∧ w'.cell? ⟨w.heap.size + 3, 1, none⟩ = some (.slice none 0 0) ∧ w'.cell? ⟨w.heap.size + 3, 2, none⟩ = some (.int .i64 0) ∧ (∀ i, w'.frozen? ⟨w.heap.size + 3, i, none⟩ = false) ∧ w.heap.size < w'.heap.size ∧ w.heap.size + 1 < w'.heap.size ∧ w.heap.size + 1 + 1 < w'.heap.size ∧ w.heap.size + 1 + 1 + 1 < w'.heap.size) := Lib.hid (fun w' hb => by
    have k0 := blk_below q0 hb
    obtain ⟨x0_0, x0_1, x0_2, x0_3, f0⟩ := blk4 k0
    have z0 := k0.1
    have k1 := blk_below q1 hb
    obtain ⟨x1_0, x1_1, x1_2, x1_3, f1⟩ := blk4 k1
    have z1 := k1.1
    have k2 := blk_below q2 hb
    obtain ⟨x2_0, x2_1, x2_2, x2_3, f2⟩ := blk4 k2
    have z2 := k2.1
    have k3 := blk_below q3 hb
    obtain ⟨x3_0, x3_1, x3_2, f3⟩ := v_blk3 k3
    have z3 := k3.1
    exact ⟨x0_0, x0_1, x0_2, x0_3, x1_0, x1_1, x1_2, x1_3, x2_0, x2_1, x2_2, x2_3, x3_0, x3_1, x3_2, f3, z0, z1, z2, z3⟩)
  clear hW qb q0 q1 q2 q3
  have HBI : Hid (Below W.heap.size W W) := Below.refl _ _
  obtain ⟨c0_0, c0_1, c0_2, c0_3, c1_0, c1_1, c1_2, c1_3, c2_0, c2_1, c2_2, c2_3, c3_0, c3_1, c3_2, cf, s0, s1, s2, s3⟩ := HK.out W HBI.out
  go_wp2_with fail
  refine (vof_any _ _ _ _ _ _ _).mono ?_
  rintro e w8 ⟨rfl, hb8⟩
  have HB8 := Lib.hid (b_call (b_alloc HBI.out _) hb8)
  clear c0_0 c0_1 c0_2 c0_3 c1_0 c1_1 c1_2 c1_3 c2_0 c2_1 c2_2 c2_3 c3_0 c3_1 c3_2 cf s0 s1 s2 s3
  have HC := Lib.hid hb8
  clear hb8
  obtain ⟨c0_0, c0_1, c0_2, c0_3, c1_0, c1_1, c1_2, c1_3, c2_0, c2_1, c2_2, c2_3, c3_0, c3_1, c3_2, cf, s0, s1, s2, s3⟩ := HK.out w8 HB8.out
  have HS := Lib.hid (HK.out _ HBI.out)
  unfold aggD
  go_wp2_with fail
  have hx : w.heap.size + 3 < W.heap.size := by have := HS.out; omega
  exact bodyPost_ret (v := .agg #[.slice none 0 0, .slice (some ⟨W.heap.size, 0, none⟩) 1 1, .int .i64 0]) (by simp [results, Try.results110, go_sem, c3_0, c3_1, c3_2]) rfl (by
    show RetF _ _ _ _ _
    exact ⟨_, _, _, _, rfl, readI_nil _, lit_far (w2 := W) [1] rfl (by simp) HC.out (gb_set3 _ _ _ _ _) hx, far_nil _ _ _ _ _, far_new (by have := (b_call HBW.out HBI.out).size; omega), b_grown (b_call HBW.out HB8.out) (gb_set3 _ _ _ _ _) (by omega)⟩)
set_option maxRecDepth 100000 in
set_option maxHeartbeats 2000000 in
theorem vdeals3 (p : PrV) (P : PrM) (v : FnV) (f : FnM) (x a b : Int) (W0 w : World) (h : ReadP W0 p P) (hb : Below W0.heap.size W0 w) (hs : SmallP P) (hf : DeepF W0 v f) (hsf : SmallF f) (ha : 0 ≤ a) : Calls Try.prog 110 #[aggP p, aggF v, .agg #[.int .i64 3, .int .u64 x, .int .i64 a, .int .i64 b]] w (RetF W0.heap.size w (⟨[], [2], 0⟩)) := by
  obtain ⟨u, ⟨ga, gn, gc⟩, m, ⟨fa, fn, fc⟩⟩ := p
  obtain ⟨⟨pa, pn, pc⟩, ⟨la, ln, lc⟩, r, ⟨ca, cn, cc⟩⟩ := v
  unfold aggP aggF Sl.v
  simp only
  have HW0 := Lib.hid hb.size
  clear h hb hs hf hsf
  go_enter Try.func110, Try.ntmps110
  go_upto_region 1 with fail
  refine wp_named ?_
  intro W hW
  obtain ⟨q0, q1, q2, q3, qb⟩ := boxes4 w #[.bool u, .slice ga gn gc, .int .i64 m, .slice fa fn fc] #[.slice pa pn pc, .slice la ln lc, .int .i64 r, .slice ca cn cc] #[.int .i64 3, .int .u64 x, .int .i64 a, .int .i64 b] #[.slice none 0 0, .slice none 0 0, .int .i64 0] 31 122 123 179
  rw [← hW] at q0 q1 q2 q3 qb
  have HBW := Lib.hid qb
  have HK : Hid (∀ w', Below W.heap.size W w' → w'.cell? ⟨w.heap.size, 0, none⟩ = some (.bool u) ∧ w'.cell? ⟨w.heap.size, 1, none⟩ = some (.slice ga gn gc) ∧ w'.cell? ⟨w.heap.size, 2, none⟩ = some (.int .i64 m) ∧ w'.cell? ⟨w.heap.size, 3, none⟩ = some (.slice fa fn fc) ∧ w'.cell? ⟨w.heap.size + 1, 0, none⟩ = some (.slice pa pn pc) ∧ w'.cell? ⟨w.heap.size + 1, 1, none⟩ = some (.slice la ln lc) ∧ w'.cell? ⟨w.heap.size + 1, 2, none⟩ = some (.int .i64 r) ∧ w'.cell? ⟨w.heap.size + 1, 3, none⟩ = some (.slice ca cn cc) ∧ w'.cell? ⟨w.heap.size + 2, 0, none⟩ = some (.int .i64 3) ∧ w'.cell? ⟨w.heap.size + 2, 1, none⟩ = some (.int .u64 x) ∧ w'.cell? ⟨w.heap.size + 2, 2, none⟩ = some (.int .i64 a) ∧ w'.cell? ⟨w.heap.size + 2, 3, none⟩ = some (.int .i64 b) ∧ w'.cell? ⟨w.heap.size + 3, 0, none⟩ = some (.slice none 0 0) ∧ w'.cell? ⟨w.heap.size + 3, 1, none⟩ = some (.slice none 0 0) ∧ w'.cell? ⟨w.heap.size + 3, 2, none⟩ = some (.int .i64 0) ∧ (∀ i, w'.frozen? ⟨w.heap.size + 3, i, none⟩ = false) ∧ w.heap.size < w'.heap.size ∧ w.heap.size + 1 < w'.heap.size ∧ w.heap.size + 1 + 1 < w'.heap.size ∧ w.heap.size + 1 + 1 + 1 < w'.heap.size) := Lib.hid (fun w' hb => by
    have k0 := blk_below q0 hb
    obtain ⟨x0_0, x0_1, x0_2, x0_3, f0⟩ := blk4 k0
    have z0 := k0.1
    have k1 := blk_below q1 hb
    obtain ⟨x1_0, x1_1, x1_2, x1_3, f1⟩ := blk4 k1
    have z1 := k1.1
    have k2 := blk_below q2 hb
    obtain ⟨x2_0, x2_1, x2_2, x2_3, f2⟩ := blk4 k2
    have z2 := k2.1
    have k3 := blk_below q3 hb
    obtain ⟨x3_0, x3_1, x3_2, f3⟩ := v_blk3 k3
    have z3 := k3.1
    exact ⟨x0_0, x0_1, x0_2, x0_3, x1_0, x1_1, x1_2, x1_3, x2_0, x2_1, x2_2, x2_3, x3_0, x3_1, x3_2, f3, z0, z1, z2, z3⟩)
  clear hW qb q0 q1 q2 q3
  have HBI : Hid (Below W.heap.size W W) := Below.refl _ _
  obtain ⟨c0_0, c0_1, c0_2, c0_3, c1_0, c1_1, c1_2, c1_3, c2_0, c2_1, c2_2, c2_3, c3_0, c3_1, c3_2, cf, s0, s1, s2, s3⟩ := HK.out W HBI.out
  go_wp2_with fail
  refine (vof_any _ _ _ _ _ _ _).mono ?_
  rintro e w8 ⟨rfl, hb8⟩
  have HB8 := Lib.hid (b_call (b_alloc HBI.out _) hb8)
  clear c0_0 c0_1 c0_2 c0_3 c1_0 c1_1 c1_2 c1_3 c2_0 c2_1 c2_2 c2_3 c3_0 c3_1 c3_2 cf s0 s1 s2 s3
  have HC := Lib.hid hb8
  clear hb8
  obtain ⟨c0_0, c0_1, c0_2, c0_3, c1_0, c1_1, c1_2, c1_3, c2_0, c2_1, c2_2, c2_3, c3_0, c3_1, c3_2, cf, s0, s1, s2, s3⟩ := HK.out w8 HB8.out
  have HS := Lib.hid (HK.out _ HBI.out)
  unfold aggD
  go_wp2_with fail
  have hx : w.heap.size + 3 < W.heap.size := by have := HS.out; omega
  exact bodyPost_ret (v := .agg #[.slice none 0 0, .slice (some ⟨W.heap.size, 0, none⟩) 1 1, .int .i64 0]) (by simp [results, Try.results110, go_sem, c3_0, c3_1, c3_2]) rfl (by
    show RetF _ _ _ _ _
    exact ⟨_, _, _, _, rfl, readI_nil _, lit_far (w2 := W) [2] rfl (by simp) HC.out (gb_set3 _ _ _ _ _) hx, far_nil _ _ _ _ _, far_new (by have := (b_call HBW.out HBI.out).size; omega), b_grown (b_call HBW.out HB8.out) (gb_set3 _ _ _ _ _) (by omega)⟩)
set_option maxRecDepth 100000 in
set_option maxHeartbeats 2000000 in
theorem vdeals12 (p : PrV) (P : PrM) (v : FnV) (f : FnM) (x a b : Int) (W0 w : World) (h : ReadP W0 p P) (hb : Below W0.heap.size W0 w) (hs : SmallP P) (hf : DeepF W0 v f) (hsf : SmallF f) (ha : 0 ≤ a) : Calls Try.prog 110 #[aggP p, aggF v, .agg #[.int .i64 12, .int .u64 x, .int .i64 a, .int .i64 b]] w (RetF W0.heap.size w (⟨[], [], 0⟩)) := by
  obtain ⟨u, ⟨ga, gn, gc⟩, m, ⟨fa, fn, fc⟩⟩ := p
  obtain ⟨⟨pa, pn, pc⟩, ⟨la, ln, lc⟩, r, ⟨ca, cn, cc⟩⟩ := v
  unfold aggP aggF Sl.v
  simp only
  have HW0 := Lib.hid hb.size
  clear h hb hs hf hsf
  go_enter Try.func110, Try.ntmps110
  go_upto_region 1 with fail
  refine wp_named ?_
  intro W hW
  obtain ⟨q0, q1, q2, q3, qb⟩ := boxes4 w #[.bool u, .slice ga gn gc, .int .i64 m, .slice fa fn fc] #[.slice pa pn pc, .slice la ln lc, .int .i64 r, .slice ca cn cc] #[.int .i64 12, .int .u64 x, .int .i64 a, .int .i64 b] #[.slice none 0 0, .slice none 0 0, .int .i64 0] 31 122 123 179
  rw [← hW] at q0 q1 q2 q3 qb
  have HBW := Lib.hid qb
  have HK : Hid (∀ w', Below W.heap.size W w' → w'.cell? ⟨w.heap.size, 0, none⟩ = some (.bool u) ∧ w'.cell? ⟨w.heap.size, 1, none⟩ = some (.slice ga gn gc) ∧ w'.cell? ⟨w.heap.size, 2, none⟩ = some (.int .i64 m) ∧ w'.cell? ⟨w.heap.size, 3, none⟩ = some (.slice fa fn fc) ∧ w'.cell? ⟨w.heap.size + 1, 0, none⟩ = some (.slice pa pn pc) ∧ w'.cell? ⟨w.heap.size + 1, 1, none⟩ = some (.slice la ln lc) ∧ w'.cell? ⟨w.heap.size + 1, 2, none⟩ = some (.int .i64 r) ∧ w'.cell? ⟨w.heap.size + 1, 3, none⟩ = some (.slice ca cn cc) ∧ w'.cell? ⟨w.heap.size + 2, 0, none⟩ = some (.int .i64 12) ∧ w'.cell? ⟨w.heap.size + 2, 1, none⟩ = some (.int .u64 x) ∧ w'.cell? ⟨w.heap.size + 2, 2, none⟩ = some (.int .i64 a) ∧ w'.cell? ⟨w.heap.size + 2, 3, none⟩ = some (.int .i64 b) ∧ w'.cell? ⟨w.heap.size + 3, 0, none⟩ = some (.slice none 0 0) ∧ w'.cell? ⟨w.heap.size + 3, 1, none⟩ = some (.slice none 0 0) ∧ w'.cell? ⟨w.heap.size + 3, 2, none⟩ = some (.int .i64 0) ∧ (∀ i, w'.frozen? ⟨w.heap.size + 3, i, none⟩ = false) ∧ w.heap.size < w'.heap.size ∧ w.heap.size + 1 < w'.heap.size ∧ w.heap.size + 1 + 1 < w'.heap.size ∧ w.heap.size + 1 + 1 + 1 < w'.heap.size) := Lib.hid (fun w' hb => by
    have k0 := blk_below q0 hb
    obtain ⟨x0_0, x0_1, x0_2, x0_3, f0⟩ := blk4 k0
    have z0 := k0.1
    have k1 := blk_below q1 hb
    obtain ⟨x1_0, x1_1, x1_2, x1_3, f1⟩ := blk4 k1
    have z1 := k1.1
    have k2 := blk_below q2 hb
    obtain ⟨x2_0, x2_1, x2_2, x2_3, f2⟩ := blk4 k2
    have z2 := k2.1
    have k3 := blk_below q3 hb
    obtain ⟨x3_0, x3_1, x3_2, f3⟩ := v_blk3 k3
    have z3 := k3.1
    exact ⟨x0_0, x0_1, x0_2, x0_3, x1_0, x1_1, x1_2, x1_3, x2_0, x2_1, x2_2, x2_3, x3_0, x3_1, x3_2, f3, z0, z1, z2, z3⟩)
  clear hW qb q0 q1 q2 q3
  have HBI : Hid (Below W.heap.size W W) := Below.refl _ _
  obtain ⟨c0_0, c0_1, c0_2, c0_3, c1_0, c1_1, c1_2, c1_3, c2_0, c2_1, c2_2, c2_3, c3_0, c3_1, c3_2, cf, s0, s1, s2, s3⟩ := HK.out W HBI.out
  go_wp2_with fail
  refine (vof_any _ _ _ _ _ _ _).mono ?_
  rintro e w8 ⟨rfl, hb8⟩
  have HB8 := Lib.hid (b_call HBI.out hb8)
  clear c0_0 c0_1 c0_2 c0_3 c1_0 c1_1 c1_2 c1_3 c2_0 c2_1 c2_2 c2_3 c3_0 c3_1 c3_2 cf s0 s1 s2 s3
  have HC := Lib.hid hb8
  clear hb8
  obtain ⟨c0_0, c0_1, c0_2, c0_3, c1_0, c1_1, c1_2, c1_3, c2_0, c2_1, c2_2, c2_3, c3_0, c3_1, c3_2, cf, s0, s1, s2, s3⟩ := HK.out w8 HB8.out
  have HS := Lib.hid (HK.out _ HBI.out)
  unfold aggD
  go_wp2_with fail
  have hx : w.heap.size + 3 < W.heap.size := by have := HS.out; omega
  exact bodyPost_ret (v := .agg #[.slice none 0 0, .slice none 0 0, .int .i64 0]) (by simp [results, Try.results110, go_sem, c3_0, c3_1, c3_2]) rfl (by
    show RetF _ _ _ _ _
    exact ⟨_, _, _, _, rfl, readI_nil _, readI_nil _, far_nil _ _ _ _ _, far_nil _ _ _ _ _, b_grown (b_call HBW.out HB8.out) (gb_set3 _ _ _ _ _) (by omega)⟩)
set_option maxRecDepth 100000 in
set_option maxHeartbeats 2000000 in
theorem vdeals16 (p : PrV) (P : PrM) (v : FnV) (f : FnM) (x a b : Int) (W0 w : World) (h : ReadP W0 p P) (hb : Below W0.heap.size W0 w) (hs : SmallP P) (hf : DeepF W0 v f) (hsf : SmallF f) (ha : 0 ≤ a) : Calls Try.prog 110 #[aggP p, aggF v, .agg #[.int .i64 16, .int .u64 x, .int .i64 a, .int .i64 b]] w (RetF W0.heap.size w (⟨[], [], 0⟩)) := by
  obtain ⟨u, ⟨ga, gn, gc⟩, m, ⟨fa, fn, fc⟩⟩ := p
  obtain ⟨⟨pa, pn, pc⟩, ⟨la, ln, lc⟩, r, ⟨ca, cn, cc⟩⟩ := v
  unfold aggP aggF Sl.v
  simp only
  have HW0 := Lib.hid hb.size
  clear h hb hs hf hsf
  go_enter Try.func110, Try.ntmps110
  go_upto_region 1 with fail
  refine wp_named ?_
  intro W hW
  obtain ⟨q0, q1, q2, q3, qb⟩ := boxes4 w #[.bool u, .slice ga gn gc, .int .i64 m, .slice fa fn fc] #[.slice pa pn pc, .slice la ln lc, .int .i64 r, .slice ca cn cc] #[.int .i64 16, .int .u64 x, .int .i64 a, .int .i64 b] #[.slice none 0 0, .slice none 0 0, .int .i64 0] 31 122 123 179
  rw [← hW] at q0 q1 q2 q3 qb
  have HBW := Lib.hid qb
  have HK : Hid (∀ w', Below W.heap.size W w' → w'.cell? ⟨w.heap.size, 0, none⟩ = some (.bool u) ∧ w'.cell? ⟨w.heap.size, 1, none⟩ = some (.slice ga gn gc) ∧ w'.cell? ⟨w.heap.size, 2, none⟩ = some (.int .i64 m) ∧ w'.cell? ⟨w.heap.size, 3, none⟩ = some (.slice fa fn fc) ∧ w'.cell? ⟨w.heap.size + 1, 0, none⟩ = some (.slice pa pn pc) ∧ w'.cell? ⟨w.heap.size + 1, 1, none⟩ = some (.slice la ln lc) ∧ w'.cell? ⟨w.heap.size + 1, 2, none⟩ = some (.int .i64 r) ∧ w'.cell? ⟨w.heap.size + 1, 3, none⟩ = some (.slice ca cn cc) ∧ w'.cell? ⟨w.heap.size + 2, 0, none⟩ = some (.int .i64 16) ∧ w'.cell? ⟨w.heap.size + 2, 1, none⟩ = some (.int .u64 x) ∧ w'.cell? ⟨w.heap.size + 2, 2, none⟩ = some (.int .i64 a) ∧ w'.cell? ⟨w.heap.size + 2, 3, none⟩ = some (.int .i64 b) ∧ w'.cell? ⟨w.heap.size + 3, 0, none⟩ = some (.slice none 0 0) ∧ w'.cell? ⟨w.heap.size + 3, 1, none⟩ = some (.slice none 0 0) ∧ w'.cell? ⟨w.heap.size + 3, 2, none⟩ = some (.int .i64 0) ∧ (∀ i, w'.frozen? ⟨w.heap.size + 3, i, none⟩ = false) ∧ w.heap.size < w'.heap.size ∧ w.heap.size + 1 < w'.heap.size ∧ w.heap.size + 1 + 1 < w'.heap.size ∧ w.heap.size + 1 + 1 + 1 < w'.heap.size) := Lib.hid (fun w' hb => by
    have k0 := blk_below q0 hb
    obtain ⟨x0_0, x0_1, x0_2, x0_3, f0⟩ := blk4 k0
    have z0 := k0.1
    have k1 := blk_below q1 hb
    obtain ⟨x1_0, x1_1, x1_2, x1_3, f1⟩ := blk4 k1
    have z1 := k1.1
    have k2 := blk_below q2 hb
    obtain ⟨x2_0, x2_1, x2_2, x2_3, f2⟩ := blk4 k2
    have z2 := k2.1
    have k3 := blk_below q3 hb
    obtain ⟨x3_0, x3_1, x3_2, f3⟩ := v_blk3 k3
    have z3 := k3.1
    exact ⟨x0_0, x0_1, x0_2, x0_3, x1_0, x1_1, x1_2, x1_3, x2_0, x2_1, x2_2, x2_3, x3_0, x3_1, x3_2, f3, z0, z1, z2, z3⟩)
  clear hW qb q0 q1 q2 q3
  have HBI : Hid (Below W.heap.size W W) := Below.refl _ _
  obtain ⟨c0_0, c0_1, c0_2, c0_3, c1_0, c1_1, c1_2, c1_3, c2_0, c2_1, c2_2, c2_3, c3_0, c3_1, c3_2, cf, s0, s1, s2, s3⟩ := HK.out W HBI.out
  go_wp2_with fail
  refine (vof_any _ _ _ _ _ _ _).mono ?_
  rintro e w8 ⟨rfl, hb8⟩
  have HB8 := Lib.hid (b_call HBI.out hb8)
  clear c0_0 c0_1 c0_2 c0_3 c1_0 c1_1 c1_2 c1_3 c2_0 c2_1 c2_2 c2_3 c3_0 c3_1 c3_2 cf s0 s1 s2 s3
  have HC := Lib.hid hb8
  clear hb8
  obtain ⟨c0_0, c0_1, c0_2, c0_3, c1_0, c1_1, c1_2, c1_3, c2_0, c2_1, c2_2, c2_3, c3_0, c3_1, c3_2, cf, s0, s1, s2, s3⟩ := HK.out w8 HB8.out
  have HS := Lib.hid (HK.out _ HBI.out)
  unfold aggD
  go_wp2_with fail
  have hx : w.heap.size + 3 < W.heap.size := by have := HS.out; omega
  exact bodyPost_ret (v := .agg #[.slice none 0 0, .slice none 0 0, .int .i64 0]) (by simp [results, Try.results110, go_sem, c3_0, c3_1, c3_2]) rfl (by
    show RetF _ _ _ _ _
    exact ⟨_, _, _, _, rfl, readI_nil _, readI_nil _, far_nil _ _ _ _ _, far_nil _ _ _ _ _, b_grown (b_call HBW.out HB8.out) (gb_set3 _ _ _ _ _) (by omega)⟩)
set_option maxRecDepth 100000 in
set_option maxHeartbeats 2000000 in
theorem vdeals30 (p : PrV) (P : PrM) (v : FnV) (f : FnM) (x a b : Int) (W0 w : World) (h : ReadP W0 p P) (hb : Below W0.heap.size W0 w) (hs : SmallP P) (hf : DeepF W0 v f) (hsf : SmallF f) (ha : 0 ≤ a) : Calls Try.prog 110 #[aggP p, aggF v, .agg #[.int .i64 30, .int .u64 x, .int .i64 a, .int .i64 b]] w (RetF W0.heap.size w (⟨[], [], 0⟩)) := by
  obtain ⟨u, ⟨ga, gn, gc⟩, m, ⟨fa, fn, fc⟩⟩ := p
  obtain ⟨⟨pa, pn, pc⟩, ⟨la, ln, lc⟩, r, ⟨ca, cn, cc⟩⟩ := v
  unfold aggP aggF Sl.v
  simp only
  have HW0 := Lib.hid hb.size
  clear h hb hs hf hsf
  go_enter Try.func110, Try.ntmps110
  go_upto_region 1 with fail
  refine wp_named ?_
  intro W hW
  obtain ⟨q0, q1, q2, q3, qb⟩ := boxes4 w #[.bool u, .slice ga gn gc, .int .i64 m, .slice fa fn fc] #[.slice pa pn pc, .slice la ln lc, .int .i64 r, .slice ca cn cc] #[.int .i64 30, .int .u64 x, .int .i64 a, .int .i64 b] #[.slice none 0 0, .slice none 0 0, .int .i64 0] 31 122 123 179
  rw [← hW] at q0 q1 q2 q3 qb
  have HBW := Lib.hid qb
  have HK : Hid (∀ w', Below W.heap.size W w' → w'.cell? ⟨w.heap.size, 0, none⟩ = some (.bool u) ∧ w'.cell? ⟨w.heap.size, 1, none⟩ = some (.slice ga gn gc) ∧ w'.cell? ⟨w.heap.size, 2, none⟩ = some (.int .i64 m) ∧ w'.cell? ⟨w.heap.size, 3, none⟩ = some (.slice fa fn fc) ∧ w'.cell? ⟨w.heap.size + 1, 0, none⟩ = some (.slice pa pn pc) ∧ w'.cell? ⟨w.heap.size + 1, 1, none⟩ = some (.slice la ln lc) ∧ w'.cell? ⟨w.heap.size + 1, 2, none⟩ = some (.int .i64 r) ∧ w'.cell? ⟨w.heap.size + 1, 3, none⟩ = some (.slice ca cn cc) ∧ w'.cell? ⟨w.heap.size + 2, 0, none⟩ = some (.int .i64 30) ∧ w'.cell? ⟨w.heap.size + 2, 1, none⟩ = some (.int .u64 x) ∧ w'.cell? ⟨w.heap.size + 2, 2, none⟩ = some (.int .i64 a) ∧ w'.cell? ⟨w.heap.size + 2, 3, none⟩ = some (.int .i64 b) ∧ w'.cell? ⟨w.heap.size + 3, 0, none⟩ = some (.slice none 0 0) ∧ w'.cell? ⟨w.heap.size + 3, 1, none⟩ = some (.slice none 0 0) ∧ w'.cell? ⟨w.heap.size + 3, 2, none⟩ = some (.int .i64 0) ∧ (∀ i, w'.frozen? ⟨w.heap.size + 3, i, none⟩ = false) ∧ w.heap.size < w'.heap.size ∧ w.heap.size + 1 < w'.heap.size ∧ w.heap.size + 1 + 1 < w'.heap.size ∧ w.heap.size + 1 + 1 + 1 < w'.heap.size) := Lib.hid (fun w' hb => by
    have k0 := blk_below q0 hb
    obtain ⟨x0_0, x0_1, x0_2, x0_3, f0⟩ := blk4 k0
    have z0 := k0.1
    have k1 := blk_below q1 hb
    obtain ⟨x1_0, x1_1, x1_2, x1_3, f1⟩ := blk4 k1
    have z1 := k1.1
    have k2 := blk_below q2 hb
    obtain ⟨x2_0, x2_1, x2_2, x2_3, f2⟩ := blk4 k2
    have z2 := k2.1
    have k3 := blk_below q3 hb
    obtain ⟨x3_0, x3_1, x3_2, f3⟩ := v_blk3 k3
    have z3 := k3.1
    exact ⟨x0_0, x0_1, x0_2, x0_3, x1_0, x1_1, x1_2, x1_3, x2_0, x2_1, x2_2, x2_3, x3_0, x3_1, x3_2, f3, z0, z1, z2, z3⟩)
  clear hW qb q0 q1 q2 q3
  have HBI : Hid (Below W.heap.size W W) := Below.refl _ _
  obtain ⟨c0_0, c0_1, c0_2, c0_3, c1_0, c1_1, c1_2, c1_3, c2_0, c2_1, c2_2, c2_3, c3_0, c3_1, c3_2, cf, s0, s1, s2, s3⟩ := HK.out W HBI.out
  go_wp2_with fail
  refine (vof_any _ _ _ _ _ _ _).mono ?_
  rintro e w8 ⟨rfl, hb8⟩
  have HB8 := Lib.hid (b_call HBI.out hb8)
  clear c0_0 c0_1 c0_2 c0_3 c1_0 c1_1 c1_2 c1_3 c2_0 c2_1 c2_2 c2_3 c3_0 c3_1 c3_2 cf s0 s1 s2 s3
  have HC := Lib.hid hb8
  clear hb8
  obtain ⟨c0_0, c0_1, c0_2, c0_3, c1_0, c1_1, c1_2, c1_3, c2_0, c2_1, c2_2, c2_3, c3_0, c3_1, c3_2, cf, s0, s1, s2, s3⟩ := HK.out w8 HB8.out
  have HS := Lib.hid (HK.out _ HBI.out)
  unfold aggD
  go_wp2_with fail
  have hx : w.heap.size + 3 < W.heap.size := by have := HS.out; omega
  exact bodyPost_ret (v := .agg #[.slice none 0 0, .slice none 0 0, .int .i64 0]) (by simp [results, Try.results110, go_sem, c3_0, c3_1, c3_2]) rfl (by
    show RetF _ _ _ _ _
    exact ⟨_, _, _, _, rfl, readI_nil _, readI_nil _, far_nil _ _ _ _ _, far_nil _ _ _ _ _, b_grown (b_call HBW.out HB8.out) (gb_set3 _ _ _ _ _) (by omega)⟩)
set_option maxRecDepth 100000 in
set_option maxHeartbeats 2000000 in
theorem vdeals13 (p : PrV) (P : PrM) (v : FnV) (f : FnM) (x a b : Int) (W0 w : World) (h : ReadP W0 p P) (hb : Below W0.heap.size W0 w) (hs : SmallP P) (hf : DeepF W0 v f) (hsf : SmallF f) (ha : 0 ≤ a) : Calls Try.prog 110 #[aggP p, aggF v, .agg #[.int .i64 13, .int .u64 x, .int .i64 a, .int .i64 b]] w (RetF W0.heap.size w (⟨[0], [], 0⟩)) := by
  obtain ⟨u, ⟨ga, gn, gc⟩, m, ⟨fa, fn, fc⟩⟩ := p
  obtain ⟨⟨pa, pn, pc⟩, ⟨la, ln, lc⟩, r, ⟨ca, cn, cc⟩⟩ := v
  unfold aggP aggF Sl.v
  simp only
  have HW0 := Lib.hid hb.size
  clear h hb hs hf hsf
  go_enter Try.func110, Try.ntmps110
  go_upto_region 1 with fail
  refine wp_named ?_
  intro W hW
  obtain ⟨q0, q1, q2, q3, qb⟩ := boxes4 w #[.bool u, .slice ga gn gc, .int .i64 m, .slice fa fn fc] #[.slice pa pn pc, .slice la ln lc, .int .i64 r, .slice ca cn cc] #[.int .i64 13, .int .u64 x, .int .i64 a, .int .i64 b] #[.slice none 0 0, .slice none 0 0, .int .i64 0] 31 122 123 179
  rw [← hW] at q0 q1 q2 q3 qb
  have HBW := Lib.hid qb
  have HK : Hid (∀ w', Below W.heap.size W w' → w'.cell? ⟨w.heap.size, 0, none⟩ = some (.bool u) ∧ w'.cell? ⟨w.heap.size, 1, none⟩ = some (.slice ga gn gc) ∧ w'.cell? ⟨w.heap.size, 2, none⟩ = some (.int .i64 m) ∧ w'.cell? ⟨w.heap.size, 3, none⟩ = some (.slice fa fn fc) ∧ w'.cell? ⟨w.heap.size + 1, 0, none⟩ = some (.slice pa pn pc) ∧ w'.cell? ⟨w.heap.size + 1, 1, none⟩ = some (.slice la ln lc) ∧ w'.cell? ⟨w.heap.size + 1, 2, none⟩ = some (.int .i64 r) ∧ w'.cell? ⟨w.heap.size + 1, 3, none⟩ = some (.slice ca cn cc) ∧ w'.cell? ⟨w.heap.size + 2, 0, none⟩ = some (.int .i64 13) ∧ w'.cell? ⟨w.heap.size + 2, 1, none⟩ = some (.int .u64 x) ∧ w'.cell? ⟨w.heap.size + 2, 2, none⟩ = some (.int .i64 a) ∧ w'.cell? ⟨w.heap.size + 2, 3, none⟩ = some (.int .i64 b) ∧ w'.cell? ⟨w.heap.size + 3, 0, none⟩ = some (.slice none 0 0) ∧ w'.cell? ⟨w.heap.size + 3, 1, none⟩ = some (.slice none 0 0) ∧ w'.cell? ⟨w.heap.size + 3, 2, none⟩ = some (.int .i64 0) ∧ (∀ i, w'.frozen? ⟨w.heap.size + 3, i, none⟩ = false) ∧ w.heap.size < w'.heap.size ∧ w.heap.size + 1 < w'.heap.size ∧ w.heap.size + 1 + 1 < w'.heap.size ∧ w.heap.size + 1 + 1 + 1 < w'.heap.size) := Lib.hid (fun w' hb => by
    have k0 := blk_below q0 hb
    obtain ⟨x0_0, x0_1, x0_2, x0_3, f0⟩ := blk4 k0
    have z0 := k0.1
    have k1 := blk_below q1 hb
    obtain ⟨x1_0, x1_1, x1_2, x1_3, f1⟩ := blk4 k1
    have z1 := k1.1
    have k2 := blk_below q2 hb
    obtain ⟨x2_0, x2_1, x2_2, x2_3, f2⟩ := blk4 k2
    have z2 := k2.1
    have k3 := blk_below q3 hb
    obtain ⟨x3_0, x3_1, x3_2, f3⟩ := v_blk3 k3
    have z3 := k3.1
    exact ⟨x0_0, x0_1, x0_2, x0_3, x1_0, x1_1, x1_2, x1_3, x2_0, x2_1, x2_2, x2_3, x3_0, x3_1, x3_2, f3, z0, z1, z2, z3⟩)
  clear hW qb q0 q1 q2 q3
  have HBI : Hid (Below W.heap.size W W) := Below.refl _ _
  obtain ⟨c0_0, c0_1, c0_2, c0_3, c1_0, c1_1, c1_2, c1_3, c2_0, c2_1, c2_2, c2_3, c3_0, c3_1, c3_2, cf, s0, s1, s2, s3⟩ := HK.out W HBI.out
  go_wp2_with fail
  refine (vof_any _ _ _ _ _ _ _).mono ?_
  rintro e w8 ⟨rfl, hb8⟩
  have HB8 := Lib.hid (b_call (b_alloc HBI.out _) hb8)
  clear c0_0 c0_1 c0_2 c0_3 c1_0 c1_1 c1_2 c1_3 c2_0 c2_1 c2_2 c2_3 c3_0 c3_1 c3_2 cf s0 s1 s2 s3
  have HC := Lib.hid hb8
  clear hb8
  obtain ⟨c0_0, c0_1, c0_2, c0_3, c1_0, c1_1, c1_2, c1_3, c2_0, c2_1, c2_2, c2_3, c3_0, c3_1, c3_2, cf, s0, s1, s2, s3⟩ := HK.out w8 HB8.out
  have HS := Lib.hid (HK.out _ HBI.out)
  unfold aggD
  go_wp2_with fail
  have hx : w.heap.size + 3 < W.heap.size := by have := HS.out; omega
  exact bodyPost_ret (v := .agg #[.slice (some ⟨W.heap.size, 0, none⟩) 1 1, .slice none 0 0, .int .i64 0]) (by simp [results, Try.results110, go_sem, c3_0, c3_1, c3_2]) rfl (by
    show RetF _ _ _ _ _
    exact ⟨_, _, _, _, rfl, lit_far (w2 := W) [0] rfl (by simp) HC.out (gb_set3 _ _ _ _ _) hx, readI_nil _, far_new (by have := (b_call HBW.out HBI.out).size; omega), far_nil _ _ _ _ _, b_grown (b_call HBW.out HB8.out) (gb_set3 _ _ _ _ _) (by omega)⟩)
set_option maxRecDepth 100000 in
set_option maxHeartbeats 2000000 in
theorem vdeals33 (p : PrV) (P : PrM) (v : FnV) (f : FnM) (x a b : Int) (W0 w : World) (h : ReadP W0 p P) (hb : Below W0.heap.size W0 w) (hs : SmallP P) (hf : DeepF W0 v f) (hsf : SmallF f) (ha : 0 ≤ a) : Calls Try.prog 110 #[aggP p, aggF v, .agg #[.int .i64 33, .int .u64 x, .int .i64 a, .int .i64 b]] w (RetF W0.heap.size w (⟨[0], [], 0⟩)) := by
  obtain ⟨u, ⟨ga, gn, gc⟩, m, ⟨fa, fn, fc⟩⟩ := p
  obtain ⟨⟨pa, pn, pc⟩, ⟨la, ln, lc⟩, r, ⟨ca, cn, cc⟩⟩ := v
  unfold aggP aggF Sl.v
  simp only
  have HW0 := Lib.hid hb.size
  clear h hb hs hf hsf
  go_enter Try.func110, Try.ntmps110
  go_upto_region 1 with fail
  refine wp_named ?_
  intro W hW
  obtain ⟨q0, q1, q2, q3, qb⟩ := boxes4 w #[.bool u, .slice ga gn gc, .int .i64 m, .slice fa fn fc] #[.slice pa pn pc, .slice la ln lc, .int .i64 r, .slice ca cn cc] #[.int .i64 33, .int .u64 x, .int .i64 a, .int .i64 b] #[.slice none 0 0, .slice none 0 0, .int .i64 0] 31 122 123 179
  rw [← hW] at q0 q1 q2 q3 qb
  have HBW := Lib.hid qb
  have HK : Hid (∀ w', Below W.heap.size W w' → w'.cell? ⟨w.heap.size, 0, none⟩ = some (.bool u) ∧ w'.cell? ⟨w.heap.size, 1, none⟩ = some (.slice ga gn gc) ∧ w'.cell? ⟨w.heap.size, 2, none⟩ = some (.int .i64 m) ∧ w'.cell? ⟨w.heap.size, 3, none⟩ = some (.slice fa fn fc) ∧ w'.cell? ⟨w.heap.size + 1, 0, none⟩ = some (.slice pa pn pc) ∧ w'.cell? ⟨w.heap.size + 1, 1, none⟩ = some (.slice la ln lc) ∧ w'.cell? ⟨w.heap.size + 1, 2, none⟩ = some (.int .i64 r) ∧ w'.cell? ⟨w.heap.size + 1, 3, none⟩ = some (.slice ca cn cc) ∧ w'.cell? ⟨w.heap.size + 2, 0, none⟩ = some (.int .i64 33) ∧ w'.cell? ⟨w.heap.size + 2, 1, none⟩ = some (.int .u64 x) ∧ w'.cell? ⟨w.heap.size + 2, 2, none⟩ = some (.int .i64 a) ∧ w'.cell? ⟨w.heap.size + 2, 3, none⟩ = some (.int .i64 b) ∧ w'.cell? ⟨w.heap.size + 3, 0, none⟩ = some (.slice none 0 0) ∧ w'.cell? ⟨w.heap.size + 3, 1, none⟩ = some (.slice none 0 0) ∧ w'.cell? ⟨w.heap.size + 3, 2, none⟩ = some (.int .i64 0) ∧ (∀ i, w'.frozen? ⟨w.heap.size + 3, i, none⟩ = false) ∧ w.heap.size < w'.heap.size ∧ w.heap.size + 1 < w'.heap.size ∧ w.heap.size + 1 + 1 < w'.heap.size ∧ w.heap.size + 1 + 1 + 1 < w'.heap.size) := Lib.hid (fun w' hb => by
    have k0 := blk_below q0 hb
    obtain ⟨x0_0, x0_1, x0_2, x0_3, f0⟩ := blk4 k0
    have z0 := k0.1
    have k1 := blk_below q1 hb
    obtain ⟨x1_0, x1_1, x1_2, x1_3, f1⟩ := blk4 k1
    have z1 := k1.1
    have k2 := blk_below q2 hb
    obtain ⟨x2_0, x2_1, x2_2, x2_3, f2⟩ := blk4 k2
    have z2 := k2.1
    have k3 := blk_below q3 hb
    obtain ⟨x3_0, x3_1, x3_2, f3⟩ := v_blk3 k3
    have z3 := k3.1
    exact ⟨x0_0, x0_1, x0_2, x0_3, x1_0, x1_1, x1_2, x1_3, x2_0, x2_1, x2_2, x2_3, x3_0, x3_1, x3_2, f3, z0, z1, z2, z3⟩)
  clear hW qb q0 q1 q2 q3
  have HBI : Hid (Below W.heap.size W W) := Below.refl _ _
  obtain ⟨c0_0, c0_1, c0_2, c0_3, c1_0, c1_1, c1_2, c1_3, c2_0, c2_1, c2_2, c2_3, c3_0, c3_1, c3_2, cf, s0, s1, s2, s3⟩ := HK.out W HBI.out
  go_wp2_with fail
  refine (vof_any _ _ _ _ _ _ _).mono ?_
  rintro e w8 ⟨rfl, hb8⟩
  have HB8 := Lib.hid (b_call (b_alloc HBI.out _) hb8)
  clear c0_0 c0_1 c0_2 c0_3 c1_0 c1_1 c1_2 c1_3 c2_0 c2_1 c2_2 c2_3 c3_0 c3_1 c3_2 cf s0 s1 s2 s3
  have HC := Lib.hid hb8
  clear hb8
  obtain ⟨c0_0, c0_1, c0_2, c0_3, c1_0, c1_1, c1_2, c1_3, c2_0, c2_1, c2_2, c2_3, c3_0, c3_1, c3_2, cf, s0, s1, s2, s3⟩ := HK.out w8 HB8.out
  have HS := Lib.hid (HK.out _ HBI.out)
  unfold aggD
  go_wp2_with fail
  have hx : w.heap.size + 3 < W.heap.size := by have := HS.out; omega
  exact bodyPost_ret (v := .agg #[.slice (some ⟨W.heap.size, 0, none⟩) 1 1, .slice none 0 0, .int .i64 0]) (by simp [results, Try.results110, go_sem, c3_0, c3_1, c3_2]) rfl (by
    show RetF _ _ _ _ _
    exact ⟨_, _, _, _, rfl, lit_far (w2 := W) [0] rfl (by simp) HC.out (gb_set3 _ _ _ _ _) hx, readI_nil _, far_new (by have := (b_call HBW.out HBI.out).size; omega), far_nil _ _ _ _ _, b_grown (b_call HBW.out HB8.out) (gb_set3 _ _ _ _ _) (by omega)⟩)
set_option maxRecDepth 100000 in
set_option maxHeartbeats 2000000 in
theorem vdeals35 (p : PrV) (P : PrM) (v : FnV) (f : FnM) (x a b : Int) (W0 w : World) (h : ReadP W0 p P) (hb : Below W0.heap.size W0 w) (hs : SmallP P) (hf : DeepF W0 v f) (hsf : SmallF f) (ha : 0 ≤ a) : Calls Try.prog 110 #[aggP p, aggF v, .agg #[.int .i64 35, .int .u64 x, .int .i64 a, .int .i64 b]] w (RetF W0.heap.size w (⟨[0], [], 0⟩)) := by
  obtain ⟨u, ⟨ga, gn, gc⟩, m, ⟨fa, fn, fc⟩⟩ := p
  obtain ⟨⟨pa, pn, pc⟩, ⟨la, ln, lc⟩, r, ⟨ca, cn, cc⟩⟩ := v
  unfold aggP aggF Sl.v
  simp only
  have HW0 := Lib.hid hb.size
  clear h hb hs hf hsf
  go_enter Try.func110, Try.ntmps110
  go_upto_region 1 with fail
  refine wp_named ?_
  intro W hW
  obtain ⟨q0, q1, q2, q3, qb⟩ := boxes4 w #[.bool u, .slice ga gn gc, .int .i64 m, .slice fa fn fc] #[.slice pa pn pc, .slice la ln lc, .int .i64 r, .slice ca cn cc] #[.int .i64 35, .int .u64 x, .int .i64 a, .int .i64 b] #[.slice none 0 0, .slice none 0 0, .int .i64 0] 31 122 123 179
  rw [← hW] at q0 q1 q2 q3 qb
  have HBW := Lib.hid qb
  have HK : Hid (∀ w', Below W.heap.size W w' → w'.cell? ⟨w.heap.size, 0, none⟩ = some (.bool u) ∧ w'.cell? ⟨w.heap.size, 1, none⟩ = some (.slice ga gn gc) ∧ w'.cell? ⟨w.heap.size, 2, none⟩ = some (.int .i64 m) ∧ w'.cell? ⟨w.heap.size, 3, none⟩ = some (.slice fa fn fc) ∧ w'.cell? ⟨w.heap.size + 1, 0, none⟩ = some (.slice pa pn pc) ∧ w'.cell? ⟨w.heap.size + 1, 1, none⟩ = some (.slice la ln lc) ∧ w'.cell? ⟨w.heap.size + 1, 2, none⟩ = some (.int .i64 r) ∧ w'.cell? ⟨w.heap.size + 1, 3, none⟩ = some (.slice ca cn cc) ∧ w'.cell? ⟨w.heap.size + 2, 0, none⟩ = some (.int .i64 35) ∧ w'.cell? ⟨w.heap.size + 2, 1, none⟩ = some (.int .u64 x) ∧ w'.cell? ⟨w.heap.size + 2, 2, none⟩ = some (.int .i64 a) ∧ w'.cell? ⟨w.heap.size + 2, 3, none⟩ = some (.int .i64 b) ∧ w'.cell? ⟨w.heap.size + 3, 0, none⟩ = some (.slice none 0 0) ∧ w'.cell? ⟨w.heap.size + 3, 1, none⟩ = some (.slice none 0 0) ∧ w'.cell? ⟨w.heap.size + 3, 2, none⟩ = some (.int .i64 0) ∧ (∀ i, w'.frozen? ⟨w.heap.size + 3, i, none⟩ = false) ∧ w.heap.size < w'.heap.size ∧ w.heap.size + 1 < w'.heap.size ∧ w.heap.size + 1 + 1 < w'.heap.size ∧ w.heap.size + 1 + 1 + 1 < w'.heap.size) := Lib.hid (fun w' hb => by
    have k0 := blk_below q0 hb
    obtain ⟨x0_0, x0_1, x0_2, x0_3, f0⟩ := blk4 k0
    have z0 := k0.1
    have k1 := blk_below q1 hb
    obtain ⟨x1_0, x1_1, x1_2, x1_3, f1⟩ := blk4 k1
    have z1 := k1.1
    have k2 := blk_below q2 hb
    obtain ⟨x2_0, x2_1, x2_2, x2_3, f2⟩ := blk4 k2
    have z2 := k2.1
    have k3 := blk_below q3 hb
    obtain ⟨x3_0, x3_1, x3_2, f3⟩ := v_blk3 k3
    have z3 := k3.1
    exact ⟨x0_0, x0_1, x0_2, x0_3, x1_0, x1_1, x1_2, x1_3, x2_0, x2_1, x2_2, x2_3, x3_0, x3_1, x3_2, f3, z0, z1, z2, z3⟩)
  clear hW qb q0 q1 q2 q3
  have HBI : Hid (Below W.heap.size W W) := Below.refl _ _
  obtain ⟨c0_0, c0_1, c0_2, c0_3, c1_0, c1_1, c1_2, c1_3, c2_0, c2_1, c2_2, c2_3, c3_0, c3_1, c3_2, cf, s0, s1, s2, s3⟩ := HK.out W HBI.out
  go_wp2_with fail
  refine (vof_any _ _ _ _ _ _ _).mono ?_
  rintro e w8 ⟨rfl, hb8⟩
  have HB8 := Lib.hid (b_call (b_alloc HBI.out _) hb8)
  clear c0_0 c0_1 c0_2 c0_3 c1_0 c1_1 c1_2 c1_3 c2_0 c2_1 c2_2 c2_3 c3_0 c3_1 c3_2 cf s0 s1 s2 s3
  have HC := Lib.hid hb8
  clear hb8
  obtain ⟨c0_0, c0_1, c0_2, c0_3, c1_0, c1_1, c1_2, c1_3, c2_0, c2_1, c2_2, c2_3, c3_0, c3_1, c3_2, cf, s0, s1, s2, s3⟩ := HK.out w8 HB8.out
  have HS := Lib.hid (HK.out _ HBI.out)
  unfold aggD
  go_wp2_with fail
  have hx : w.heap.size + 3 < W.heap.size := by have := HS.out; omega
  exact bodyPost_ret (v := .agg #[.slice (some ⟨W.heap.size, 0, none⟩) 1 1, .slice none 0 0, .int .i64 0]) (by simp [results, Try.results110, go_sem, c3_0, c3_1, c3_2]) rfl (by
    show RetF _ _ _ _ _
    exact ⟨_, _, _, _, rfl, lit_far (w2 := W) [0] rfl (by simp) HC.out (gb_set3 _ _ _ _ _) hx, readI_nil _, far_new (by have := (b_call HBW.out HBI.out).size; omega), far_nil _ _ _ _ _, b_grown (b_call HBW.out HB8.out) (gb_set3 _ _ _ _ _) (by omega)⟩)
set_option maxRecDepth 100000 in
set_option maxHeartbeats 2000000 in
theorem vdeals34 (p : PrV) (P : PrM) (v : FnV) (f : FnM) (x a b : Int) (W0 w : World) (h : ReadP W0 p P) (hb : Below W0.heap.size W0 w) (hs : SmallP P) (hf : DeepF W0 v f) (hsf : SmallF f) (ha : 0 ≤ a) : Calls Try.prog 110 #[aggP p, aggF v, .agg #[.int .i64 34, .int .u64 x, .int .i64 a, .int .i64 b]] w (RetF W0.heap.size w (⟨[1], [], 0⟩)) := by
  obtain ⟨u, ⟨ga, gn, gc⟩, m, ⟨fa, fn, fc⟩⟩ := p
  obtain ⟨⟨pa, pn, pc⟩, ⟨la, ln, lc⟩, r, ⟨ca, cn, cc⟩⟩ := v
  unfold aggP aggF Sl.v
  simp only
  have HW0 := Lib.hid hb.size
  clear h hb hs hf hsf
  go_enter Try.func110, Try.ntmps110
  go_upto_region 1 with fail
  refine wp_named ?_
  intro W hW
  obtain ⟨q0, q1, q2, q3, qb⟩ := boxes4 w #[.bool u, .slice ga gn gc, .int .i64 m, .slice fa fn fc] #[.slice pa pn pc, .slice la ln lc, .int .i64 r, .slice ca cn cc] #[.int .i64 34, .int .u64 x, .int .i64 a, .int .i64 b] #[.slice none 0 0, .slice none 0 0, .int .i64 0] 31 122 123 179
  rw [← hW] at q0 q1 q2 q3 qb
  have HBW := Lib.hid qb
  have HK : Hid (∀ w', Below W.heap.size W w' → w'.cell? ⟨w.heap.size, 0, none⟩ = some (.bool u) ∧ w'.cell? ⟨w.heap.size, 1, none⟩ = some (.slice ga gn gc) ∧ w'.cell? ⟨w.heap.size, 2, none⟩ = some (.int .i64 m) ∧ w'.cell? ⟨w.heap.size, 3, none⟩ = some (.slice fa fn fc) ∧ w'.cell? ⟨w.heap.size + 1, 0, none⟩ = some (.slice pa pn pc) ∧ w'.cell? ⟨w.heap.size + 1, 1, none⟩ = some (.slice la ln lc) ∧ w'.cell? ⟨w.heap.size + 1, 2, none⟩ = some (.int .i64 r) ∧ w'.cell? ⟨w.heap.size + 1, 3, none⟩ = some (.slice ca cn cc) ∧ w'.cell? ⟨w.heap.size + 2, 0, none⟩ = some (.int .i64 34) ∧ w'.cell? ⟨w.heap.size + 2, 1, none⟩ = some (.int .u64 x) ∧ w'.cell? ⟨w.heap.size + 2, 2, none⟩ = some (.int .i64 a) ∧ w'.cell? ⟨w.heap.size + 2, 3, none⟩ = some (.int .i64 b) ∧ w'.cell? ⟨w.heap.size + 3, 0, none⟩ = some (.slice none 0 0) ∧ w'.cell? ⟨w.heap.size + 3, 1, none⟩ = some (.slice none 0 0) ∧ w'.cell? ⟨w.heap.size + 3, 2, none⟩ = some (.int .i64 0) ∧ (∀ i, w'.frozen? ⟨w.heap.size + 3, i, none⟩ = false) ∧ w.heap.size < w'.heap.size ∧ w.heap.size + 1 < w'.heap.size ∧ w.heap.size + 1 + 1 < w'.heap.size ∧ w.heap.size + 1 + 1 + 1 < w'.heap.size) := Lib.hid (fun w' hb => by
    have k0 := blk_below q0 hb
    obtain ⟨x0_0, x0_1, x0_2, x0_3, f0⟩ := blk4 k0
    have z0 := k0.1
    have k1 := blk_below q1 hb
    obtain ⟨x1_0, x1_1, x1_2, x1_3, f1⟩ := blk4 k1
    have z1 := k1.1
    have k2 := blk_below q2 hb
    obtain ⟨x2_0, x2_1, x2_2, x2_3, f2⟩ := blk4 k2
    have z2 := k2.1
    have k3 := blk_below q3 hb
    obtain ⟨x3_0, x3_1, x3_2, f3⟩ := v_blk3 k3
    have z3 := k3.1
    exact ⟨x0_0, x0_1, x0_2, x0_3, x1_0, x1_1, x1_2, x1_3, x2_0, x2_1, x2_2, x2_3, x3_0, x3_1, x3_2, f3, z0, z1, z2, z3⟩)
  clear hW qb q0 q1 q2 q3
  have HBI : Hid (Below W.heap.size W W) := Below.refl _ _
  obtain ⟨c0_0, c0_1, c0_2, c0_3, c1_0, c1_1, c1_2, c1_3, c2_0, c2_1, c2_2, c2_3, c3_0, c3_1, c3_2, cf, s0, s1, s2, s3⟩ := HK.out W HBI.out
  go_wp2_with fail
  refine (vof_any _ _ _ _ _ _ _).mono ?_
  rintro e w8 ⟨rfl, hb8⟩
  have HB8 := Lib.hid (b_call (b_alloc HBI.out _) hb8)
  clear c0_0 c0_1 c0_2 c0_3 c1_0 c1_1 c1_2 c1_3 c2_0 c2_1 c2_2 c2_3 c3_0 c3_1 c3_2 cf s0 s1 s2 s3
  have HC := Lib.hid hb8
  clear hb8
  obtain ⟨c0_0, c0_1, c0_2, c0_3, c1_0, c1_1, c1_2, c1_3, c2_0, c2_1, c2_2, c2_3, c3_0, c3_1, c3_2, cf, s0, s1, s2, s3⟩ := HK.out w8 HB8.out
  have HS := Lib.hid (HK.out _ HBI.out)
  unfold aggD
  go_wp2_with fail
  have hx : w.heap.size + 3 < W.heap.size := by have := HS.out; omega
  exact bodyPost_ret (v := .agg #[.slice (some ⟨W.heap.size, 0, none⟩) 1 1, .slice none 0 0, .int .i64 0]) (by simp [results, Try.results110, go_sem, c3_0, c3_1, c3_2]) rfl (by
    show RetF _ _ _ _ _
    exact ⟨_, _, _, _, rfl, lit_far (w2 := W) [1] rfl (by simp) HC.out (gb_set3 _ _ _ _ _) hx, readI_nil _, far_new (by have := (b_call HBW.out HBI.out).size; omega), far_nil _ _ _ _ _, b_grown (b_call HBW.out HB8.out) (gb_set3 _ _ _ _ _) (by omega)⟩)
set_option maxRecDepth 100000 in
set_option maxHeartbeats 2000000 in
theorem vdeals29 (p : PrV) (P : PrM) (v : FnV) (f : FnM) (x a b : Int) (W0 w : World) (h : ReadP W0 p P) (hb : Below W0.heap.size W0 w) (hs : SmallP P) (hf : DeepF W0 v f) (hsf : SmallF f) (ha : 0 ≤ a) : Calls Try.prog 110 #[aggP p, aggF v, .agg #[.int .i64 29, .int .u64 x, .int .i64 a, .int .i64 b]] w (RetF W0.heap.size w (⟨[0], [0], 0⟩)) := by
  obtain ⟨u, ⟨ga, gn, gc⟩, m, ⟨fa, fn, fc⟩⟩ := p
  obtain ⟨⟨pa, pn, pc⟩, ⟨la, ln, lc⟩, r, ⟨ca, cn, cc⟩⟩ := v
  unfold aggP aggF Sl.v
  simp only
  have HW0 := Lib.hid hb.size
  clear h hb hs hf hsf
  go_enter Try.func110, Try.ntmps110
  go_upto_region 1 with fail
  refine wp_named ?_
  intro W hW
  obtain ⟨q0, q1, q2, q3, qb⟩ := boxes4 w #[.bool u, .slice ga gn gc, .int .i64 m, .slice fa fn fc] #[.slice pa pn pc, .slice la ln lc, .int .i64 r, .slice ca cn cc] #[.int .i64 29, .int .u64 x, .int .i64 a, .int .i64 b] #[.slice none 0 0, .slice none 0 0, .int .i64 0] 31 122 123 179
  rw [← hW] at q0 q1 q2 q3 qb
  have HBW := Lib.hid qb
  have HK : Hid (∀ w', Below W.heap.size W w' → w'.cell? ⟨w.heap.size, 0, none⟩ = some (.bool u) ∧ w'.cell? ⟨w.heap.size, 1, none⟩ = some (.slice ga gn gc) ∧ w'.cell? ⟨w.heap.size, 2, none⟩ = some (.int .i64 m) ∧ w'.cell? ⟨w.heap.size, 3, none⟩ = some (.slice fa fn fc) ∧ w'.cell? ⟨w.heap.size + 1, 0, none⟩ = some (.slice pa pn pc) ∧ w'.cell? ⟨w.heap.size + 1, 1, none⟩ = some (.slice la ln lc) ∧ w'.cell? ⟨w.heap.size + 1, 2, none⟩ = some (.int .i64 r) ∧ w'.cell? ⟨w.heap.size + 1, 3, none⟩ = some (.slice ca cn cc) ∧ w'.cell? ⟨w.heap.size + 2, 0, none⟩ = some (.int .i64 29) ∧ w'.cell? ⟨w.heap.size + 2, 1, none⟩ = some (.int .u64 x) ∧ w'.cell? ⟨w.heap.size + 2, 2, none⟩ = some (.int .i64 a) ∧ w'.cell? ⟨w.heap.size + 2, 3, none⟩ = some (.int .i64 b) ∧ w'.cell? ⟨w.heap.size + 3, 0, none⟩ = some (.slice none 0 0) ∧ w'.cell? ⟨w.heap.size + 3, 1, none⟩ = some (.slice none 0 0) ∧ w'.cell? ⟨w.heap.size + 3, 2, none⟩ = some (.int .i64 0) ∧ (∀ i, w'.frozen? ⟨w.heap.size + 3, i, none⟩ = false) ∧ w.heap.size < w'.heap.size ∧ w.heap.size + 1 < w'.heap.size ∧ w.heap.size + 1 + 1 < w'.heap.size ∧ w.heap.size + 1 + 1 + 1 < w'.heap.size) := Lib.hid (fun w' hb => by
    have k0 := blk_below q0 hb
    obtain ⟨x0_0, x0_1, x0_2, x0_3, f0⟩ := blk4 k0
    have z0 := k0.1
    have k1 := blk_below q1 hb
    obtain ⟨x1_0, x1_1, x1_2, x1_3, f1⟩ := blk4 k1
    have z1 := k1.1
    have k2 := blk_below q2 hb
    obtain ⟨x2_0, x2_1, x2_2, x2_3, f2⟩ := blk4 k2
    have z2 := k2.1
    have k3 := blk_below q3 hb
    obtain ⟨x3_0, x3_1, x3_2, f3⟩ := v_blk3 k3
    have z3 := k3.1
    exact ⟨x0_0, x0_1, x0_2, x0_3, x1_0, x1_1, x1_2, x1_3, x2_0, x2_1, x2_2, x2_3, x3_0, x3_1, x3_2, f3, z0, z1, z2, z3⟩)
  clear hW qb q0 q1 q2 q3
  have HBI : Hid (Below W.heap.size W W) := Below.refl _ _
  obtain ⟨c0_0, c0_1, c0_2, c0_3, c1_0, c1_1, c1_2, c1_3, c2_0, c2_1, c2_2, c2_3, c3_0, c3_1, c3_2, cf, s0, s1, s2, s3⟩ := HK.out W HBI.out
  go_wp2_with fail
  refine (vof_any _ _ _ _ _ _ _).mono ?_
  rintro e w8 ⟨rfl, hb8⟩
  have HB8 := Lib.hid (b_call (b_alloc (b_alloc HBI.out _) _) hb8)
  clear c0_0 c0_1 c0_2 c0_3 c1_0 c1_1 c1_2 c1_3 c2_0 c2_1 c2_2 c2_3 c3_0 c3_1 c3_2 cf s0 s1 s2 s3
  have HC := Lib.hid hb8
  clear hb8
  obtain ⟨c0_0, c0_1, c0_2, c0_3, c1_0, c1_1, c1_2, c1_3, c2_0, c2_1, c2_2, c2_3, c3_0, c3_1, c3_2, cf, s0, s1, s2, s3⟩ := HK.out w8 HB8.out
  have HS := Lib.hid (HK.out _ HBI.out)
  unfold aggD
  go_wp2_with fail
  have hx : w.heap.size + 3 < W.heap.size := by have := HS.out; omega
  exact bodyPost_ret (v := .agg #[.slice (some ⟨W.heap.size, 0, none⟩) 1 1, .slice (some ⟨W.heap.size + 1, 0, none⟩) 1 1, .int .i64 0]) (by simp [results, Try.results110, go_sem, c3_0, c3_1, c3_2]) rfl (by
    show RetF _ _ _ _ _
    exact ⟨_, _, _, _, rfl, lit_far (w2 := W) [0] rfl (by simp) (b_call (b_alloc (Below.refl _ _) _) HC.out) (gb_set3 _ _ _ _ _) hx, lit_far (w2 := (W.alloc (.cells #[.int .i64 0] 3))) [0] (by simp) (by simp) HC.out (gb_set3 _ _ _ _ _) (by simp; omega), far_new (by have := (b_call HBW.out HBI.out).size; omega), far_new (by have := (b_call HBW.out HBI.out).size; simp; omega), b_grown (b_call HBW.out HB8.out) (gb_set3 _ _ _ _ _) (by omega)⟩)
set_option maxRecDepth 100000 in
set_option maxHeartbeats 2000000 in
theorem vdeals15 (p : PrV) (P : PrM) (v : FnV) (f : FnM) (x a b : Int) (W0 w : World) (h : ReadP W0 p P) (hb : Below W0.heap.size W0 w) (hs : SmallP P) (hf : DeepF W0 v f) (hsf : SmallF f) (ha : 0 ≤ a) : Calls Try.prog 110 #[aggP p, aggF v, .agg #[.int .i64 15, .int .u64 x, .int .i64 a, .int .i64 b]] w (RetF W0.heap.size w (⟨[f.r], [], 0⟩)) := by
  have hr := hf.r
  rw [← hr]
  clear hr
  obtain ⟨u, ⟨ga, gn, gc⟩, m, ⟨fa, fn, fc⟩⟩ := p
  obtain ⟨⟨pa, pn, pc⟩, ⟨la, ln, lc⟩, r, ⟨ca, cn, cc⟩⟩ := v
  unfold aggP aggF Sl.v
  simp only
  have HW0 := Lib.hid hb.size
  clear h hb hs hf hsf
  go_enter Try.func110, Try.ntmps110
  go_upto_region 1 with fail
  refine wp_named ?_
  intro W hW
  obtain ⟨q0, q1, q2, q3, qb⟩ := boxes4 w #[.bool u, .slice ga gn gc, .int .i64 m, .slice fa fn fc] #[.slice pa pn pc, .slice la ln lc, .int .i64 r, .slice ca cn cc] #[.int .i64 15, .int .u64 x, .int .i64 a, .int .i64 b] #[.slice none 0 0, .slice none 0 0, .int .i64 0] 31 122 123 179
  rw [← hW] at q0 q1 q2 q3 qb
  have HBW := Lib.hid qb
  have HK : Hid (∀ w', Below W.heap.size W w' → w'.cell? ⟨w.heap.size, 0, none⟩ = some (.bool u) ∧ w'.cell? ⟨w.heap.size, 1, none⟩ = some (.slice ga gn gc) ∧ w'.cell? ⟨w.heap.size, 2, none⟩ = some (.int .i64 m) ∧ w'.cell? ⟨w.heap.size, 3, none⟩ = some (.slice fa fn fc) ∧ w'.cell? ⟨w.heap.size + 1, 0, none⟩ = some (.slice pa pn pc) ∧ w'.cell? ⟨w.heap.size + 1, 1, none⟩ = some (.slice la ln lc) ∧ w'.cell? ⟨w.heap.size + 1, 2, none⟩ = some (.int .i64 r) ∧ w'.cell? ⟨w.heap.size + 1, 3, none⟩ = some (.slice ca cn cc) ∧ w'.cell? ⟨w.heap.size + 2, 0, none⟩ = some (.int .i64 15) ∧ w'.cell? ⟨w.heap.size + 2, 1, none⟩ = some (.int .u64 x) ∧ w'.cell? ⟨w.heap.size + 2, 2, none⟩ = some (.int .i64 a) ∧ w'.cell? ⟨w.heap.size + 2, 3, none⟩ = some (.int .i64 b) ∧ w'.cell? ⟨w.heap.size + 3, 0, none⟩ = some (.slice none 0 0) ∧ w'.cell? ⟨w.heap.size + 3, 1, none⟩ = some (.slice none 0 0) ∧ w'.cell? ⟨w.heap.size + 3, 2, none⟩ = some (.int .i64 0) ∧ (∀ i, w'.frozen? ⟨w.heap.size + 3, i, none⟩ = false) ∧ w.heap.size < w'.heap.size ∧ w.heap.size + 1 < w'.heap.size ∧ w.heap.size + 1 + 1 < w'.heap.size ∧ w.heap.size + 1 + 1 + 1 < w'.heap.size) := Lib.hid (fun w' hb => by
    have k0 := blk_below q0 hb
    obtain ⟨x0_0, x0_1, x0_2, x0_3, f0⟩ := blk4 k0
    have z0 := k0.1
    have k1 := blk_below q1 hb
    obtain ⟨x1_0, x1_1, x1_2, x1_3, f1⟩ := blk4 k1
    have z1 := k1.1
    have k2 := blk_below q2 hb
    obtain ⟨x2_0, x2_1, x2_2, x2_3, f2⟩ := blk4 k2
    have z2 := k2.1
    have k3 := blk_below q3 hb
    obtain ⟨x3_0, x3_1, x3_2, f3⟩ := v_blk3 k3
    have z3 := k3.1
    exact ⟨x0_0, x0_1, x0_2, x0_3, x1_0, x1_1, x1_2, x1_3, x2_0, x2_1, x2_2, x2_3, x3_0, x3_1, x3_2, f3, z0, z1, z2, z3⟩)
  clear hW qb q0 q1 q2 q3
  have HBI : Hid (Below W.heap.size W W) := Below.refl _ _
  obtain ⟨c0_0, c0_1, c0_2, c0_3, c1_0, c1_1, c1_2, c1_3, c2_0, c2_1, c2_2, c2_3, c3_0, c3_1, c3_2, cf, s0, s1, s2, s3⟩ := HK.out W HBI.out
  go_wp2_with fail
  refine (vof_any _ _ _ _ _ _ _).mono ?_
  rintro e w8 ⟨rfl, hb8⟩
  have HB8 := Lib.hid (b_call (b_alloc HBI.out _) hb8)
  clear c0_0 c0_1 c0_2 c0_3 c1_0 c1_1 c1_2 c1_3 c2_0 c2_1 c2_2 c2_3 c3_0 c3_1 c3_2 cf s0 s1 s2 s3
  have HC := Lib.hid hb8
  clear hb8
  obtain ⟨c0_0, c0_1, c0_2, c0_3, c1_0, c1_1, c1_2, c1_3, c2_0, c2_1, c2_2, c2_3, c3_0, c3_1, c3_2, cf, s0, s1, s2, s3⟩ := HK.out w8 HB8.out
  have HS := Lib.hid (HK.out _ HBI.out)
  unfold aggD
  go_wp2_with fail
  have hx : w.heap.size + 3 < W.heap.size := by have := HS.out; omega
  exact bodyPost_ret (v := .agg #[.slice (some ⟨W.heap.size, 0, none⟩) 1 1, .slice none 0 0, .int .i64 0]) (by simp [results, Try.results110, go_sem, c3_0, c3_1, c3_2]) rfl (by
    show RetF _ _ _ _ _
    exact ⟨_, _, _, _, rfl, lit_far (w2 := W) [r] rfl (by simp) HC.out (gb_set3 _ _ _ _ _) hx, readI_nil _, far_new (by have := (b_call HBW.out HBI.out).size; omega), far_nil _ _ _ _ _, b_grown (b_call HBW.out HB8.out) (gb_set3 _ _ _ _ _) (by omega)⟩)
end Go.Proofs.Ytdmidnmciaediaa
