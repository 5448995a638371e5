/- Layer 26: the program's deals, part 2. Conditions: those stated. -/
import Derived.Test.YtdmidnmciaediaaZVer5
import Derived.Test.YtdmidnmciaediaaZVer7
import Derived.Test.YtdmidnmciaediaaZHeldE
namespace Go.Proofs.Ytdmidnmciaediaa
open Go.RowKit
set_option linter.unusedVariables false
set_option linter.unusedSimpArgs false
attribute [local go_sem] over_cell over_frozen
set_option maxRecDepth 100000 in
set_option maxHeartbeats 2000000 in
theorem vdeals4 (p : PrV) (P : PrM) (v : FnV) (f : FnM) (x a b : Int) (W0 w : World) (h : ReadP W0 p P) (hb : Below W0.heap.size W0 w) (hs : SmallP P) (hf : DeepF W0 v f) (hsf : SmallF f) (ha : 0 ≤ a) : Calls Try.prog 110 #[aggP p, aggF v, .agg #[.int .i64 4, .int .u64 x, .int .i64 a, .int .i64 b]] w (RetF W0.heap.size w (ifNamed (inL (f.ps ++ f.ls) a) ⟨[], [atL (f.ps ++ f.ls) a], 0⟩)) := by
  obtain ⟨D, hD⟩ : ∃ D : Deal, D = ifNamed (inL (f.ps ++ f.ls) a) ⟨[], [atL (f.ps ++ f.ls) a], 0⟩ := ⟨_, rfl⟩
  rw [← hD]
  obtain ⟨u, ⟨ga, gn, gc⟩, m, ⟨fa, fn, fc⟩⟩ := p
  obtain ⟨⟨pa, pn, pc⟩, ⟨la, ln, lc⟩, r, ⟨ca, cn, cc⟩⟩ := v
  have HSUB : Hid (∀ w', Below W0.heap.size W0 w' → Calls Try.prog 126 #[aggP ⟨u, ⟨ga, gn, gc⟩, m, ⟨fa, fn, fc⟩⟩, aggF ⟨⟨pa, pn, pc⟩, ⟨la, ln, lc⟩, r, ⟨ca, cn, cc⟩⟩, .agg #[.int .i64 4, .int .u64 x, .int .i64 a, .int .i64 b]] w' (RetF W0.heap.size w' D)) := Lib.hid (fun w' hb' => by rw [hD]; exact vplaces4 ⟨u, ⟨ga, gn, gc⟩, m, ⟨fa, fn, fc⟩⟩ P ⟨⟨pa, pn, pc⟩, ⟨la, ln, lc⟩, r, ⟨ca, cn, cc⟩⟩ f x a b W0 w' h hb' hs hf hsf)
  have HB0 := Lib.hid hb
  clear hD
  unfold aggP aggF Sl.v
  simp only
  have HW0 := Lib.hid hb.size
  clear h hb hs hf hsf
  (try unfold aggP at HSUB)
  (try unfold aggF at HSUB)
  (try unfold Sl.v at HSUB)
  (try simp only at HSUB)
  go_enter Try.func110, Try.ntmps110
  go_upto_region 1 with fail
  refine wp_named ?_
  intro W hW
  obtain ⟨q0, q1, q2, q3, qb⟩ := boxes4 w #[.bool u, .slice ga gn gc, .int .i64 m, .slice fa fn fc] #[.slice pa pn pc, .slice la ln lc, .int .i64 r, .slice ca cn cc] #[.int .i64 4, .int .u64 x, .int .i64 a, .int .i64 b] #[.slice none 0 0, .slice none 0 0, .int .i64 0] 31 122 123 179
  rw [← hW] at q0 q1 q2 q3 qb
  have HBW := Lib.hid qb
  have HK : Hid (∀ w', Below W.heap.size W w' → w'.cell? ⟨w.heap.size, 0, none⟩ = some (.bool u) ∧ w'.cell? ⟨w.heap.size, 1, none⟩ = some (.slice ga gn gc) ∧ w'.cell? ⟨w.heap.size, 2, none⟩ = some (.int .i64 m) ∧ w'.cell? ⟨w.heap.size, 3, none⟩ = some (.slice fa fn fc) ∧ w'.cell? ⟨w.heap.size + 1, 0, none⟩ = some (.slice pa pn pc) ∧ w'.cell? ⟨w.heap.size + 1, 1, none⟩ = some (.slice la ln lc) ∧ w'.cell? ⟨w.heap.size + 1, 2, none⟩ = some (.int .i64 r) ∧ w'.cell? ⟨w.heap.size + 1, 3, none⟩ = some (.slice ca cn cc) ∧ w'.cell? ⟨w.heap.size + 2, 0, none⟩ = some (.int .i64 4) ∧ w'.cell? ⟨w.heap.size + 2, 1, none⟩ = some (.int .u64 x) ∧ w'.cell? ⟨w.heap.size + 2, 2, none⟩ = some (.int .i64 a) ∧ w'.cell? ⟨w.heap.size + 2, 3, none⟩ = some (.int .i64 b) ∧ w'.cell? ⟨w.heap.size + 3, 0, none⟩ = some (.slice none 0 0) ∧ w'.cell? ⟨w.heap.size + 3, 1, none⟩ = some (.slice none 0 0) ∧ w'.cell? ⟨w.heap.size + 3, 2, none⟩ = some (.int .i64 0) ∧ (∀ i, w'.frozen? ⟨w.heap.size + 3, i, none⟩ = false) ∧ w.heap.size < w'.heap.size ∧ w.heap.size + 1 < w'.heap.size ∧ w.heap.size + 1 + 1 < w'.heap.size ∧ w.heap.size + 1 + 1 + 1 < w'.heap.size) := Lib.hid (fun w' hb => by
    have k0 := blk_below q0 hb
    obtain ⟨x0_0, x0_1, x0_2, x0_3, f0⟩ := blk4 k0
    have z0 := k0.1
    have k1 := blk_below q1 hb
    obtain ⟨x1_0, x1_1, x1_2, x1_3, f1⟩ := blk4 k1
    have z1 := k1.1
    have k2 := blk_below q2 hb
    obtain ⟨x2_0, x2_1, x2_2, x2_3, f2⟩ := blk4 k2
    have z2 := k2.1
    have k3 := blk_below q3 hb
    obtain ⟨x3_0, x3_1, x3_2, f3⟩ := v_blk3 k3
    have z3 := k3.1
    exact ⟨x0_0, x0_1, x0_2, x0_3, x1_0, x1_1, x1_2, x1_3, x2_0, x2_1, x2_2, x2_3, x3_0, x3_1, x3_2, f3, z0, z1, z2, z3⟩)
  clear hW qb q0 q1 q2 q3
  have HBI : Hid (Below W.heap.size W W) := Below.refl _ _
  obtain ⟨c0_0, c0_1, c0_2, c0_3, c1_0, c1_1, c1_2, c1_3, c2_0, c2_1, c2_2, c2_3, c3_0, c3_1, c3_2, cf, s0, s1, s2, s3⟩ := HK.out W HBI.out
  go_wp2_with fail
  refine (HSUB.out _ (b_call HB0.out HBW.out)).mono ?_
  rintro e w8 ⟨ta, tc, ka, kc, rfl, hr1, hr2, hf1, hf2, hb8⟩
  have HR1 := Lib.hid hr1; have HR2 := Lib.hid hr2; have HF1 := Lib.hid hf1; have HF2 := Lib.hid hf2; have HB8 := Lib.hid hb8
  clear hr1 hr2 hf1 hf2 hb8
  clear c0_0 c0_1 c0_2 c0_3 c1_0 c1_1 c1_2 c1_3 c2_0 c2_1 c2_2 c2_3 c3_0 c3_1 c3_2 cf s0 s1 s2 s3
  obtain ⟨c0_0, c0_1, c0_2, c0_3, c1_0, c1_1, c1_2, c1_3, c2_0, c2_1, c2_2, c2_3, c3_0, c3_1, c3_2, cf, s0, s1, s2, s3⟩ := HK.out w8 HB8.out
  have HSX := Lib.hid (HK.out _ HBI.out)
  have HSW := Lib.hid HBW.out.size
  unfold aggD
  go_wp2_with fail
  have hx : w.heap.size + 3 < W.heap.size := by have := HSX.out; omega
  exact bodyPost_ret (v := .agg #[.slice ta D.t.length tc, .slice ka D.p.length kc, .int .i64 D.c]) (by simp [results, Try.results110, go_sem, c3_0, c3_1, c3_2]) rfl (by
    show RetF _ _ _ _ _
    exact ⟨_, _, _, _, rfl, readI_far HR1.out HF1.out (by have := HW0.out; omega) hx (gb_set3 _ _ _ _ _), readI_far HR2.out HF2.out (by have := HW0.out; omega) hx (gb_set3 _ _ _ _ _), far_mono HF1.out HSW.out, far_mono HF2.out HSW.out, b_grown (b_call HBW.out HB8.out) (gb_set3 _ _ _ _ _) (by omega)⟩)
set_option maxRecDepth 100000 in
set_option maxHeartbeats 2000000 in
theorem vdeals5 (p : PrV) (P : PrM) (v : FnV) (f : FnM) (x a b : Int) (W0 w : World) (h : ReadP W0 p P) (hb : Below W0.heap.size W0 w) (hs : SmallP P) (hf : DeepF W0 v f) (hsf : SmallF f) (ha : 0 ≤ a) : Calls Try.prog 110 #[aggP p, aggF v, .agg #[.int .i64 5, .int .u64 x, .int .i64 a, .int .i64 b]] w (RetF W0.heap.size w (ifNamed (inL (f.ps ++ f.ls) a) ⟨[atL (f.ps ++ f.ls) a], [], 0⟩)) := by
  obtain ⟨D, hD⟩ : ∃ D : Deal, D = ifNamed (inL (f.ps ++ f.ls) a) ⟨[atL (f.ps ++ f.ls) a], [], 0⟩ := ⟨_, rfl⟩
  rw [← hD]
  obtain ⟨u, ⟨ga, gn, gc⟩, m, ⟨fa, fn, fc⟩⟩ := p
  obtain ⟨⟨pa, pn, pc⟩, ⟨la, ln, lc⟩, r, ⟨ca, cn, cc⟩⟩ := v
  have HSUB : Hid (∀ w', Below W0.heap.size W0 w' → Calls Try.prog 126 #[aggP ⟨u, ⟨ga, gn, gc⟩, m, ⟨fa, fn, fc⟩⟩, aggF ⟨⟨pa, pn, pc⟩, ⟨la, ln, lc⟩, r, ⟨ca, cn, cc⟩⟩, .agg #[.int .i64 5, .int .u64 x, .int .i64 a, .int .i64 b]] w' (RetF W0.heap.size w' D)) := Lib.hid (fun w' hb' => by rw [hD]; exact vplaces5 ⟨u, ⟨ga, gn, gc⟩, m, ⟨fa, fn, fc⟩⟩ P ⟨⟨pa, pn, pc⟩, ⟨la, ln, lc⟩, r, ⟨ca, cn, cc⟩⟩ f x a b W0 w' h hb' hs hf hsf)
  have HB0 := Lib.hid hb
  clear hD
  unfold aggP aggF Sl.v
  simp only
  have HW0 := Lib.hid hb.size
  clear h hb hs hf hsf
  (try unfold aggP at HSUB)
  (try unfold aggF at HSUB)
  (try unfold Sl.v at HSUB)
  (try simp only at HSUB)
  go_enter Try.func110, Try.ntmps110
  go_upto_region 1 with fail
  refine wp_named ?_
  intro W hW
  obtain ⟨q0, q1, q2, q3, qb⟩ := boxes4 w #[.bool u, .slice ga gn gc, .int .i64 m, .slice fa fn fc] #[.slice pa pn pc, .slice la ln lc, .int .i64 r, .slice ca cn cc] #[.int .i64 5, .int .u64 x, .int .i64 a, .int .i64 b] #[.slice none 0 0, .slice none 0 0, .int .i64 0] 31 122 123 179
  rw [← hW] at q0 q1 q2 q3 qb
  have HBW := Lib.hid qb
  have HK : Hid (∀ w', Below W.heap.size W w' → w'.cell? ⟨w.heap.size, 0, none⟩ = some (.bool u) ∧ w'.cell? ⟨w.heap.size, 1, none⟩ = some (.slice ga gn gc) ∧ w'.cell? ⟨w.heap.size, 2, none⟩ = some (.int .i64 m) ∧ w'.cell? ⟨w.heap.size, 3, none⟩ = some (.slice fa fn fc) ∧ w'.cell? ⟨w.heap.size + 1, 0, none⟩ = some (.slice pa pn pc) ∧ w'.cell? ⟨w.heap.size + 1, 1, none⟩ = some (.slice la ln lc) ∧ w'.cell? ⟨w.heap.size + 1, 2, none⟩ = some (.int .i64 r) ∧ w'.cell? ⟨w.heap.size + 1, 3, none⟩ = some (.slice ca cn cc) ∧ w'.cell? ⟨w.heap.size + 2, 0, none⟩ = some (.int .i64 5) ∧ w'.cell? ⟨w.heap.size + 2, 1, none⟩ = some (.int .u64 x) ∧ w'.cell? ⟨w.heap.size + 2, 2, none⟩ = some (.int .i64 a) ∧ w'.cell? ⟨w.heap.size + 2, 3, none⟩ = some (.int .i64 b) ∧ w'.cell? ⟨w.heap.size + 3, 0, none⟩ = some (.slice none 0 0) ∧ w'.cell? ⟨w.heap.size + 3, 1, none⟩ = some (.slice none 0 0) ∧ w'.cell? ⟨w.heap.size + 3, 2, none⟩ = some (.int .i64 0) ∧ (∀ i, w'.frozen? ⟨w.heap.size + 3, i, none⟩ = false) ∧ w.heap.size < w'.heap.size ∧ w.heap.size + 1 < w'.heap.size ∧ w.heap.size + 1 + 1 < w'.heap.size ∧ w.heap.size + 1 + 1 + 1 < w'.heap.size) := Lib.hid (fun w' hb => by
    have k0 := blk_below q0 hb
    obtain ⟨x0_0, x0_1, x0_2, x0_3, f0⟩ := blk4 k0
    have z0 := k0.1
    have k1 := blk_below q1 hb
    obtain ⟨x1_0, x1_1, x1_2, x1_3, f1⟩ := blk4 k1
    have z1 := k1.1
    have k2 := blk_below q2 hb
    obtain ⟨x2_0, x2_1, x2_2, x2_3, f2⟩ := blk4 k2
    have z2 := k2.1
    have k3 := blk_below q3 hb
    obtain ⟨x3_0, x3_1, x3_2, f3⟩ := v_blk3 k3
    have z3 := k3.1
    exact ⟨x0_0, x0_1, x0_2, x0_3, x1_0, x1_1, x1_2, x1_3, x2_0, x2_1, x2_2, x2_3, x3_0, x3_1, x3_2, f3, z0, z1, z2, z3⟩)
  clear hW qb q0 q1 q2 q3
  have HBI : Hid (Below W.heap.size W W) := Below.refl _ _
  obtain ⟨c0_0, c0_1, c0_2, c0_3, c1_0, c1_1, c1_2, c1_3, c2_0, c2_1, c2_2, c2_3, c3_0, c3_1, c3_2, cf, s0, s1, s2, s3⟩ := HK.out W HBI.out
  go_wp2_with fail
  refine (HSUB.out _ (b_call HB0.out HBW.out)).mono ?_
  rintro e w8 ⟨ta, tc, ka, kc, rfl, hr1, hr2, hf1, hf2, hb8⟩
  have HR1 := Lib.hid hr1; have HR2 := Lib.hid hr2; have HF1 := Lib.hid hf1; have HF2 := Lib.hid hf2; have HB8 := Lib.hid hb8
  clear hr1 hr2 hf1 hf2 hb8
  clear c0_0 c0_1 c0_2 c0_3 c1_0 c1_1 c1_2 c1_3 c2_0 c2_1 c2_2 c2_3 c3_0 c3_1 c3_2 cf s0 s1 s2 s3
  obtain ⟨c0_0, c0_1, c0_2, c0_3, c1_0, c1_1, c1_2, c1_3, c2_0, c2_1, c2_2, c2_3, c3_0, c3_1, c3_2, cf, s0, s1, s2, s3⟩ := HK.out w8 HB8.out
  have HSX := Lib.hid (HK.out _ HBI.out)
  have HSW := Lib.hid HBW.out.size
  unfold aggD
  go_wp2_with fail
  have hx : w.heap.size + 3 < W.heap.size := by have := HSX.out; omega
  exact bodyPost_ret (v := .agg #[.slice ta D.t.length tc, .slice ka D.p.length kc, .int .i64 D.c]) (by simp [results, Try.results110, go_sem, c3_0, c3_1, c3_2]) rfl (by
    show RetF _ _ _ _ _
    exact ⟨_, _, _, _, rfl, readI_far HR1.out HF1.out (by have := HW0.out; omega) hx (gb_set3 _ _ _ _ _), readI_far HR2.out HF2.out (by have := HW0.out; omega) hx (gb_set3 _ _ _ _ _), far_mono HF1.out HSW.out, far_mono HF2.out HSW.out, b_grown (b_call HBW.out HB8.out) (gb_set3 _ _ _ _ _) (by omega)⟩)
set_option maxRecDepth 100000 in
set_option maxHeartbeats 2000000 in
theorem vdeals6 (p : PrV) (P : PrM) (v : FnV) (f : FnM) (x a b : Int) (W0 w : World) (h : ReadP W0 p P) (hb : Below W0.heap.size W0 w) (hs : SmallP P) (hf : DeepF W0 v f) (hsf : SmallF f) (ha : 0 ≤ a) : Calls Try.prog 110 #[aggP p, aggF v, .agg #[.int .i64 6, .int .u64 x, .int .i64 a, .int .i64 b]] w (RetF W0.heap.size w (ifNamed (inL P.gl a) ⟨[], [atL P.gl a], 0⟩)) := by
  obtain ⟨D, hD⟩ : ∃ D : Deal, D = ifNamed (inL P.gl a) ⟨[], [atL P.gl a], 0⟩ := ⟨_, rfl⟩
  rw [← hD]
  obtain ⟨u, ⟨ga, gn, gc⟩, m, ⟨fa, fn, fc⟩⟩ := p
  obtain ⟨⟨pa, pn, pc⟩, ⟨la, ln, lc⟩, r, ⟨ca, cn, cc⟩⟩ := v
  have HSUB : Hid (∀ w', Below W0.heap.size W0 w' → Calls Try.prog 126 #[aggP ⟨u, ⟨ga, gn, gc⟩, m, ⟨fa, fn, fc⟩⟩, aggF ⟨⟨pa, pn, pc⟩, ⟨la, ln, lc⟩, r, ⟨ca, cn, cc⟩⟩, .agg #[.int .i64 6, .int .u64 x, .int .i64 a, .int .i64 b]] w' (RetF W0.heap.size w' D)) := Lib.hid (fun w' hb' => by rw [hD]; exact vplaces6 ⟨u, ⟨ga, gn, gc⟩, m, ⟨fa, fn, fc⟩⟩ P ⟨⟨pa, pn, pc⟩, ⟨la, ln, lc⟩, r, ⟨ca, cn, cc⟩⟩ f x a b W0 w' h hb' hs hf hsf)
  have HB0 := Lib.hid hb
  clear hD
  unfold aggP aggF Sl.v
  simp only
  have HW0 := Lib.hid hb.size
  clear h hb hs hf hsf
  (try unfold aggP at HSUB)
  (try unfold aggF at HSUB)
  (try unfold Sl.v at HSUB)
  (try simp only at HSUB)
  go_enter Try.func110, Try.ntmps110
  go_upto_region 1 with fail
  refine wp_named ?_
  intro W hW
  obtain ⟨q0, q1, q2, q3, qb⟩ := boxes4 w #[.bool u, .slice ga gn gc, .int .i64 m, .slice fa fn fc] #[.slice pa pn pc, .slice la ln lc, .int .i64 r, .slice ca cn cc] #[.int .i64 6, .int .u64 x, .int .i64 a, .int .i64 b] #[.slice none 0 0, .slice none 0 0, .int .i64 0] 31 122 123 179
  rw [← hW] at q0 q1 q2 q3 qb
  have HBW := Lib.hid qb
  have HK : Hid (∀ w', Below W.heap.size W w' → w'.cell? ⟨w.heap.size, 0, none⟩ = some (.bool u) ∧ w'.cell? ⟨w.heap.size, 1, none⟩ = some (.slice ga gn gc) ∧ w'.cell? ⟨w.heap.size, 2, none⟩ = some (.int .i64 m) ∧ w'.cell? ⟨w.heap.size, 3, none⟩ = some (.slice fa fn fc) ∧ w'.cell? ⟨w.heap.size + 1, 0, none⟩ = some (.slice pa pn pc) ∧ w'.cell? ⟨w.heap.size + 1, 1, none⟩ = some (.slice la ln lc) ∧ w'.cell? ⟨w.heap.size + 1, 2, none⟩ = some (.int .i64 r) ∧ w'.cell? ⟨w.heap.size + 1, 3, none⟩ = some (.slice ca cn cc) ∧ w'.cell? ⟨w.heap.size + 2, 0, none⟩ = some (.int .i64 6) ∧ w'.cell? ⟨w.heap.size + 2, 1, none⟩ = some (.int .u64 x) ∧ w'.cell? ⟨w.heap.size + 2, 2, none⟩ = some (.int .i64 a) ∧ w'.cell? ⟨w.heap.size + 2, 3, none⟩ = some (.int .i64 b) ∧ w'.cell? ⟨w.heap.size + 3, 0, none⟩ = some (.slice none 0 0) ∧ w'.cell? ⟨w.heap.size + 3, 1, none⟩ = some (.slice none 0 0) ∧ w'.cell? ⟨w.heap.size + 3, 2, none⟩ = some (.int .i64 0) ∧ (∀ i, w'.frozen? ⟨w.heap.size + 3, i, none⟩ = false) ∧ w.heap.size < w'.heap.size ∧ w.heap.size + 1 < w'.heap.size ∧ w.heap.size + 1 + 1 < w'.heap.size ∧ w.heap.size + 1 + 1 + 1 < w'.heap.size) := Lib.hid (fun w' hb => by
    have k0 := blk_below q0 hb
    obtain ⟨x0_0, x0_1, x0_2, x0_3, f0⟩ := blk4 k0
    have z0 := k0.1
    have k1 := blk_below q1 hb
    obtain ⟨x1_0, x1_1, x1_2, x1_3, f1⟩ := blk4 k1
    have z1 := k1.1
    have k2 := blk_below q2 hb
    obtain ⟨x2_0, x2_1, x2_2, x2_3, f2⟩ := blk4 k2
    have z2 := k2.1
    have k3 := blk_below q3 hb
    obtain ⟨x3_0, x3_1, x3_2, f3⟩ := v_blk3 k3
    have z3 := k3.1
    exact ⟨x0_0, x0_1, x0_2, x0_3, x1_0, x1_1, x1_2, x1_3, x2_0, x2_1, x2_2, x2_3, x3_0, x3_1, x3_2, f3, z0, z1, z2, z3⟩)
  clear hW qb q0 q1 q2 q3
  have HBI : Hid (Below W.heap.size W W) := Below.refl _ _
  obtain ⟨c0_0, c0_1, c0_2, c0_3, c1_0, c1_1, c1_2, c1_3, c2_0, c2_1, c2_2, c2_3, c3_0, c3_1, c3_2, cf, s0, s1, s2, s3⟩ := HK.out W HBI.out
  go_wp2_with fail
  refine (HSUB.out _ (b_call HB0.out HBW.out)).mono ?_
  rintro e w8 ⟨ta, tc, ka, kc, rfl, hr1, hr2, hf1, hf2, hb8⟩
  have HR1 := Lib.hid hr1; have HR2 := Lib.hid hr2; have HF1 := Lib.hid hf1; have HF2 := Lib.hid hf2; have HB8 := Lib.hid hb8
  clear hr1 hr2 hf1 hf2 hb8
  clear c0_0 c0_1 c0_2 c0_3 c1_0 c1_1 c1_2 c1_3 c2_0 c2_1 c2_2 c2_3 c3_0 c3_1 c3_2 cf s0 s1 s2 s3
  obtain ⟨c0_0, c0_1, c0_2, c0_3, c1_0, c1_1, c1_2, c1_3, c2_0, c2_1, c2_2, c2_3, c3_0, c3_1, c3_2, cf, s0, s1, s2, s3⟩ := HK.out w8 HB8.out
  have HSX := Lib.hid (HK.out _ HBI.out)
  have HSW := Lib.hid HBW.out.size
  unfold aggD
  go_wp2_with fail
  have hx : w.heap.size + 3 < W.heap.size := by have := HSX.out; omega
  exact bodyPost_ret (v := .agg #[.slice ta D.t.length tc, .slice ka D.p.length kc, .int .i64 D.c]) (by simp [results, Try.results110, go_sem, c3_0, c3_1, c3_2]) rfl (by
    show RetF _ _ _ _ _
    exact ⟨_, _, _, _, rfl, readI_far HR1.out HF1.out (by have := HW0.out; omega) hx (gb_set3 _ _ _ _ _), readI_far HR2.out HF2.out (by have := HW0.out; omega) hx (gb_set3 _ _ _ _ _), far_mono HF1.out HSW.out, far_mono HF2.out HSW.out, b_grown (b_call HBW.out HB8.out) (gb_set3 _ _ _ _ _) (by omega)⟩)
set_option maxRecDepth 100000 in
set_option maxHeartbeats 2000000 in
theorem vdeals7 (p : PrV) (P : PrM) (v : FnV) (f : FnM) (x a b : Int) (W0 w : World) (h : ReadP W0 p P) (hb : Below W0.heap.size W0 w) (hs : SmallP P) (hf : DeepF W0 v f) (hsf : SmallF f) (ha : 0 ≤ a) : Calls Try.prog 110 #[aggP p, aggF v, .agg #[.int .i64 7, .int .u64 x, .int .i64 a, .int .i64 b]] w (RetF W0.heap.size w (ifNamed (inL P.gl a) ⟨[atL P.gl a], [], 0⟩)) := by
  obtain ⟨D, hD⟩ : ∃ D : Deal, D = ifNamed (inL P.gl a) ⟨[atL P.gl a], [], 0⟩ := ⟨_, rfl⟩
  rw [← hD]
  obtain ⟨u, ⟨ga, gn, gc⟩, m, ⟨fa, fn, fc⟩⟩ := p
  obtain ⟨⟨pa, pn, pc⟩, ⟨la, ln, lc⟩, r, ⟨ca, cn, cc⟩⟩ := v
  have HSUB : Hid (∀ w', Below W0.heap.size W0 w' → Calls Try.prog 126 #[aggP ⟨u, ⟨ga, gn, gc⟩, m, ⟨fa, fn, fc⟩⟩, aggF ⟨⟨pa, pn, pc⟩, ⟨la, ln, lc⟩, r, ⟨ca, cn, cc⟩⟩, .agg #[.int .i64 7, .int .u64 x, .int .i64 a, .int .i64 b]] w' (RetF W0.heap.size w' D)) := Lib.hid (fun w' hb' => by rw [hD]; exact vplaces7 ⟨u, ⟨ga, gn, gc⟩, m, ⟨fa, fn, fc⟩⟩ P ⟨⟨pa, pn, pc⟩, ⟨la, ln, lc⟩, r, ⟨ca, cn, cc⟩⟩ f x a b W0 w' h hb' hs hf hsf)
  have HB0 := Lib.hid hb
  clear hD
  unfold aggP aggF Sl.v
  simp only
  have HW0 := Lib.hid hb.size
  clear h hb hs hf hsf
  (try unfold aggP at HSUB)
  (try unfold aggF at HSUB)
  (try unfold Sl.v at HSUB)
  (try simp only at HSUB)
  go_enter Try.func110, Try.ntmps110
  go_upto_region 1 with fail
  refine wp_named ?_
  intro W hW
  obtain ⟨q0, q1, q2, q3, qb⟩ := boxes4 w #[.bool u, .slice ga gn gc, .int .i64 m, .slice fa fn fc] #[.slice pa pn pc, .slice la ln lc, .int .i64 r, .slice ca cn cc] #[.int .i64 7, .int .u64 x, .int .i64 a, .int .i64 b] #[.slice none 0 0, .slice none 0 0, .int .i64 0] 31 122 123 179
  rw [← hW] at q0 q1 q2 q3 qb
  have HBW := Lib.hid qb
  have HK : Hid (∀ w', Below W.heap.size W w' → w'.cell? ⟨w.heap.size, 0, none⟩ = some (.bool u) ∧ w'.cell? ⟨w.heap.size, 1, none⟩ = some (.slice ga gn gc) ∧ w'.cell? ⟨w.heap.size, 2, none⟩ = some (.int .i64 m) ∧ w'.cell? ⟨w.heap.size, 3, none⟩ = some (.slice fa fn fc) ∧ w'.cell? ⟨w.heap.size + 1, 0, none⟩ = some (.slice pa pn pc) ∧ w'.cell? ⟨w.heap.size + 1, 1, none⟩ = some (.slice la ln lc) ∧ w'.cell? ⟨w.heap.size + 1, 2, none⟩ = some (.int .i64 r) ∧ w'.cell? ⟨w.heap.size + 1, 3, none⟩ = some (.slice ca cn cc) ∧ w'.cell? ⟨w.heap.size + 2, 0, none⟩ = some (.int .i64 7) ∧ w'.cell? ⟨w.heap.size + 2, 1, none⟩ = some (.int .u64 x) ∧ w'.cell? ⟨w.heap.size + 2, 2, none⟩ = some (.int .i64 a) ∧ w'.cell? ⟨w.heap.size + 2, 3, none⟩ = some (.int .i64 b) ∧ w'.cell? ⟨w.heap.size + 3, 0, none⟩ = some (.slice none 0 0) ∧ w'.cell? ⟨w.heap.size + 3, 1, none⟩ = some (.slice none 0 0) ∧ w'.cell? ⟨w.heap.size + 3, 2, none⟩ = some (.int .i64 0) ∧ (∀ i, w'.frozen? ⟨w.heap.size + 3, i, none⟩ = false) ∧ w.heap.size < w'.heap.size ∧ w.heap.size + 1 < w'.heap.size ∧ w.heap.size + 1 + 1 < w'.heap.size ∧ w.heap.size + 1 + 1 + 1 < w'.heap.size) := Lib.hid (fun w' hb => by
    have k0 := blk_below q0 hb
    obtain ⟨x0_0, x0_1, x0_2, x0_3, f0⟩ := blk4 k0
    have z0 := k0.1
    have k1 := blk_below q1 hb
    obtain ⟨x1_0, x1_1, x1_2, x1_3, f1⟩ := blk4 k1
    have z1 := k1.1
    have k2 := blk_below q2 hb
    obtain ⟨x2_0, x2_1, x2_2, x2_3, f2⟩ := blk4 k2
    have z2 := k2.1
    have k3 := blk_below q3 hb
    obtain ⟨x3_0, x3_1, x3_2, f3⟩ := v_blk3 k3
    have z3 := k3.1
    exact ⟨x0_0, x0_1, x0_2, x0_3, x1_0, x1_1, x1_2, x1_3, x2_0, x2_1, x2_2, x2_3, x3_0, x3_1, x3_2, f3, z0, z1, z2, z3⟩)
  clear hW qb q0 q1 q2 q3
  have HBI : Hid (Below W.heap.size W W) := Below.refl _ _
  obtain ⟨c0_0, c0_1, c0_2, c0_3, c1_0, c1_1, c1_2, c1_3, c2_0, c2_1, c2_2, c2_3, c3_0, c3_1, c3_2, cf, s0, s1, s2, s3⟩ := HK.out W HBI.out
  go_wp2_with fail
  refine (HSUB.out _ (b_call HB0.out HBW.out)).mono ?_
  rintro e w8 ⟨ta, tc, ka, kc, rfl, hr1, hr2, hf1, hf2, hb8⟩
  have HR1 := Lib.hid hr1; have HR2 := Lib.hid hr2; have HF1 := Lib.hid hf1; have HF2 := Lib.hid hf2; have HB8 := Lib.hid hb8
  clear hr1 hr2 hf1 hf2 hb8
  clear c0_0 c0_1 c0_2 c0_3 c1_0 c1_1 c1_2 c1_3 c2_0 c2_1 c2_2 c2_3 c3_0 c3_1 c3_2 cf s0 s1 s2 s3
  obtain ⟨c0_0, c0_1, c0_2, c0_3, c1_0, c1_1, c1_2, c1_3, c2_0, c2_1, c2_2, c2_3, c3_0, c3_1, c3_2, cf, s0, s1, s2, s3⟩ := HK.out w8 HB8.out
  have HSX := Lib.hid (HK.out _ HBI.out)
  have HSW := Lib.hid HBW.out.size
  unfold aggD
  go_wp2_with fail
  have hx : w.heap.size + 3 < W.heap.size := by have := HSX.out; omega
  exact bodyPost_ret (v := .agg #[.slice ta D.t.length tc, .slice ka D.p.length kc, .int .i64 D.c]) (by simp [results, Try.results110, go_sem, c3_0, c3_1, c3_2]) rfl (by
    show RetF _ _ _ _ _
    exact ⟨_, _, _, _, rfl, readI_far HR1.out HF1.out (by have := HW0.out; omega) hx (gb_set3 _ _ _ _ _), readI_far HR2.out HF2.out (by have := HW0.out; omega) hx (gb_set3 _ _ _ _ _), far_mono HF1.out HSW.out, far_mono HF2.out HSW.out, b_grown (b_call HBW.out HB8.out) (gb_set3 _ _ _ _ _) (by omega)⟩)
set_option maxRecDepth 100000 in
set_option maxHeartbeats 2000000 in
theorem vdeals10 (p : PrV) (P : PrM) (v : FnV) (f : FnM) (x a b : Int) (W0 w : World) (h : ReadP W0 p P) (hb : Below W0.heap.size W0 w) (hs : SmallP P) (hf : DeepF W0 v f) (hsf : SmallF f) (ha : 0 ≤ a) : Calls Try.prog 110 #[aggP p, aggF v, .agg #[.int .i64 10, .int .u64 x, .int .i64 a, .int .i64 b]] w (RetF W0.heap.size w (ifNamed (decide (0 ≤ utO a)) ⟨[utO a], [ugO a], 0⟩)) := by
  obtain ⟨D, hD⟩ : ∃ D : Deal, D = ifNamed (decide (0 ≤ utO a)) ⟨[utO a], [ugO a], 0⟩ := ⟨_, rfl⟩
  rw [← hD]
  obtain ⟨u, ⟨ga, gn, gc⟩, m, ⟨fa, fn, fc⟩⟩ := p
  obtain ⟨⟨pa, pn, pc⟩, ⟨la, ln, lc⟩, r, ⟨ca, cn, cc⟩⟩ := v
  have HSUB : Hid (∀ w', Below W0.heap.size W0 w' → Calls Try.prog 127 #[.agg #[.int .i64 10, .int .u64 x, .int .i64 a, .int .i64 b]] w' (RetF W0.heap.size w' D)) := Lib.hid (fun w' hb' => by rw [hD]; exact vreckons10 x a b _ w')
  have HB0 := Lib.hid hb
  clear hD
  unfold aggP aggF Sl.v
  simp only
  have HW0 := Lib.hid hb.size
  clear h hb hs hf hsf
  (try unfold aggP at HSUB)
  (try unfold aggF at HSUB)
  (try unfold Sl.v at HSUB)
  (try simp only at HSUB)
  go_enter Try.func110, Try.ntmps110
  go_upto_region 1 with fail
  refine wp_named ?_
  intro W hW
  obtain ⟨q0, q1, q2, q3, qb⟩ := boxes4 w #[.bool u, .slice ga gn gc, .int .i64 m, .slice fa fn fc] #[.slice pa pn pc, .slice la ln lc, .int .i64 r, .slice ca cn cc] #[.int .i64 10, .int .u64 x, .int .i64 a, .int .i64 b] #[.slice none 0 0, .slice none 0 0, .int .i64 0] 31 122 123 179
  rw [← hW] at q0 q1 q2 q3 qb
  have HBW := Lib.hid qb
  have HK : Hid (∀ w', Below W.heap.size W w' → w'.cell? ⟨w.heap.size, 0, none⟩ = some (.bool u) ∧ w'.cell? ⟨w.heap.size, 1, none⟩ = some (.slice ga gn gc) ∧ w'.cell? ⟨w.heap.size, 2, none⟩ = some (.int .i64 m) ∧ w'.cell? ⟨w.heap.size, 3, none⟩ = some (.slice fa fn fc) ∧ w'.cell? ⟨w.heap.size + 1, 0, none⟩ = some (.slice pa pn pc) ∧ w'.cell? ⟨w.heap.size + 1, 1, none⟩ = some (.slice la ln lc) ∧ w'.cell? ⟨w.heap.size + 1, 2, none⟩ = some (.int .i64 r) ∧ w'.cell? ⟨w.heap.size + 1, 3, none⟩ = some (.slice ca cn cc) ∧ w'.cell? ⟨w.heap.size + 2, 0, none⟩ = some (.int .i64 10) ∧ w'.cell? ⟨w.heap.size + 2, 1, none⟩ = some (.int .u64 x) ∧ w'.cell? ⟨w.heap.size + 2, 2, none⟩ = some (.int .i64 a) ∧ w'.cell? ⟨w.heap.size + 2, 3, none⟩ = some (.int .i64 b) ∧ w'.cell? ⟨w.heap.size + 3, 0, none⟩ = some (.slice none 0 0) ∧ w'.cell? ⟨w.heap.size + 3, 1, none⟩ = some (.slice none 0 0) ∧ w'.cell? ⟨w.heap.size + 3, 2, none⟩ = some (.int .i64 0) ∧ (∀ i, w'.frozen? ⟨w.heap.size + 3, i, none⟩ = false) ∧ w.heap.size < w'.heap.size ∧ w.heap.size + 1 < w'.heap.size ∧ w.heap.size + 1 + 1 < w'.heap.size ∧ w.heap.size + 1 + 1 + 1 < w'.heap.size) := Lib.hid (fun w' hb => by
    have k0 := blk_below q0 hb
    obtain ⟨x0_0, x0_1, x0_2, x0_3, f0⟩ := blk4 k0
    have z0 := k0.1
    have k1 := blk_below q1 hb
    obtain ⟨x1_0, x1_1, x1_2, x1_3, f1⟩ := blk4 k1
    have z1 := k1.1
    have k2 := blk_below q2 hb
    obtain ⟨x2_0, x2_1, x2_2, x2_3, f2⟩ := blk4 k2
    have z2 := k2.1
    have k3 := blk_below q3 hb
    obtain ⟨x3_0, x3_1, x3_2, f3⟩ := v_blk3 k3
    have z3 := k3.1
    exact ⟨x0_0, x0_1, x0_2, x0_3, x1_0, x1_1, x1_2, x1_3, x2_0, x2_1, x2_2, x2_3, x3_0, x3_1, x3_2, f3, z0, z1, z2, z3⟩)
  clear hW qb q0 q1 q2 q3
  have HBI : Hid (Below W.heap.size W W) := Below.refl _ _
  obtain ⟨c0_0, c0_1, c0_2, c0_3, c1_0, c1_1, c1_2, c1_3, c2_0, c2_1, c2_2, c2_3, c3_0, c3_1, c3_2, cf, s0, s1, s2, s3⟩ := HK.out W HBI.out
  go_wp2_with fail
  refine (HSUB.out _ (b_call HB0.out HBW.out)).mono ?_
  rintro e w8 ⟨ta, tc, ka, kc, rfl, hr1, hr2, hf1, hf2, hb8⟩
  have HR1 := Lib.hid hr1; have HR2 := Lib.hid hr2; have HF1 := Lib.hid hf1; have HF2 := Lib.hid hf2; have HB8 := Lib.hid hb8
  clear hr1 hr2 hf1 hf2 hb8
  clear c0_0 c0_1 c0_2 c0_3 c1_0 c1_1 c1_2 c1_3 c2_0 c2_1 c2_2 c2_3 c3_0 c3_1 c3_2 cf s0 s1 s2 s3
  obtain ⟨c0_0, c0_1, c0_2, c0_3, c1_0, c1_1, c1_2, c1_3, c2_0, c2_1, c2_2, c2_3, c3_0, c3_1, c3_2, cf, s0, s1, s2, s3⟩ := HK.out w8 HB8.out
  have HSX := Lib.hid (HK.out _ HBI.out)
  have HSW := Lib.hid HBW.out.size
  unfold aggD
  go_wp2_with fail
  have hx : w.heap.size + 3 < W.heap.size := by have := HSX.out; omega
  exact bodyPost_ret (v := .agg #[.slice ta D.t.length tc, .slice ka D.p.length kc, .int .i64 D.c]) (by simp [results, Try.results110, go_sem, c3_0, c3_1, c3_2]) rfl (by
    show RetF _ _ _ _ _
    exact ⟨_, _, _, _, rfl, readI_far HR1.out HF1.out (by have := HW0.out; omega) hx (gb_set3 _ _ _ _ _), readI_far HR2.out HF2.out (by have := HW0.out; omega) hx (gb_set3 _ _ _ _ _), far_mono HF1.out HSW.out, far_mono HF2.out HSW.out, b_grown (b_call HBW.out HB8.out) (gb_set3 _ _ _ _ _) (by omega)⟩)
set_option maxRecDepth 100000 in
set_option maxHeartbeats 2000000 in
theorem vdeals11 (p : PrV) (P : PrM) (v : FnV) (f : FnM) (x a b : Int) (W0 w : World) (h : ReadP W0 p P) (hb : Below W0.heap.size W0 w) (hs : SmallP P) (hf : DeepF W0 v f) (hsf : SmallF f) (ha : 0 ≤ a) : Calls Try.prog 110 #[aggP p, aggF v, .agg #[.int .i64 11, .int .u64 x, .int .i64 a, .int .i64 b]] w (RetF W0.heap.size w (ifNamed (decide (0 ≤ takesO a)) ⟨[takesO a, takesO a], [givesO a], 0⟩)) := by
  obtain ⟨D, hD⟩ : ∃ D : Deal, D = ifNamed (decide (0 ≤ takesO a)) ⟨[takesO a, takesO a], [givesO a], 0⟩ := ⟨_, rfl⟩
  rw [← hD]
  obtain ⟨u, ⟨ga, gn, gc⟩, m, ⟨fa, fn, fc⟩⟩ := p
  obtain ⟨⟨pa, pn, pc⟩, ⟨la, ln, lc⟩, r, ⟨ca, cn, cc⟩⟩ := v
  have HSUB : Hid (∀ w', Below W0.heap.size W0 w' → Calls Try.prog 127 #[.agg #[.int .i64 11, .int .u64 x, .int .i64 a, .int .i64 b]] w' (RetF W0.heap.size w' D)) := Lib.hid (fun w' hb' => by rw [hD]; exact vreckons11 x a b _ w')
  have HB0 := Lib.hid hb
  clear hD
  unfold aggP aggF Sl.v
  simp only
  have HW0 := Lib.hid hb.size
  clear h hb hs hf hsf
  (try unfold aggP at HSUB)
  (try unfold aggF at HSUB)
  (try unfold Sl.v at HSUB)
  (try simp only at HSUB)
  go_enter Try.func110, Try.ntmps110
  go_upto_region 1 with fail
  refine wp_named ?_
  intro W hW
  obtain ⟨q0, q1, q2, q3, qb⟩ := boxes4 w #[.bool u, .slice ga gn gc, .int .i64 m, .slice fa fn fc] #[.slice pa pn pc, .slice la ln lc, .int .i64 r, .slice ca cn cc] #[.int .i64 11, .int .u64 x, .int .i64 a, .int .i64 b] #[.slice none 0 0, .slice none 0 0, .int .i64 0] 31 122 123 179
  rw [← hW] at q0 q1 q2 q3 qb
  have HBW := Lib.hid qb
  have HK : Hid (∀ w', Below W.heap.size W w' → w'.cell? ⟨w.heap.size, 0, none⟩ = some (.bool u) ∧ w'.cell? ⟨w.heap.size, 1, none⟩ = some (.slice ga gn gc) ∧ w'.cell? ⟨w.heap.size, 2, none⟩ = some (.int .i64 m) ∧ w'.cell? ⟨w.heap.size, 3, none⟩ = some (.slice fa fn fc) ∧ w'.cell? ⟨w.heap.size + 1, 0, none⟩ = some (.slice pa pn pc) ∧ w'.cell? ⟨w.heap.size + 1, 1, none⟩ = some (.slice la ln lc) ∧ w'.cell? ⟨w.heap.size + 1, 2, none⟩ = some (.int .i64 r) ∧ w'.cell? ⟨w.heap.size + 1, 3, none⟩ = some (.slice ca cn cc) ∧ w'.cell? ⟨w.heap.size + 2, 0, none⟩ = some (.int .i64 11) ∧ w'.cell? ⟨w.heap.size + 2, 1, none⟩ = some (.int .u64 x) ∧ w'.cell? ⟨w.heap.size + 2, 2, none⟩ = some (.int .i64 a) ∧ w'.cell? ⟨w.heap.size + 2, 3, none⟩ = some (.int .i64 b) ∧ w'.cell? ⟨w.heap.size + 3, 0, none⟩ = some (.slice none 0 0) ∧ w'.cell? ⟨w.heap.size + 3, 1, none⟩ = some (.slice none 0 0) ∧ w'.cell? ⟨w.heap.size + 3, 2, none⟩ = some (.int .i64 0) ∧ (∀ i, w'.frozen? ⟨w.heap.size + 3, i, none⟩ = false) ∧ w.heap.size < w'.heap.size ∧ w.heap.size + 1 < w'.heap.size ∧ w.heap.size + 1 + 1 < w'.heap.size ∧ w.heap.size + 1 + 1 + 1 < w'.heap.size) := Lib.hid (fun w' hb => by
    have k0 := blk_below q0 hb
    obtain ⟨x0_0, x0_1, x0_2, x0_3, f0⟩ := blk4 k0
    have z0 := k0.1
    have k1 := blk_below q1 hb
    obtain ⟨x1_0, x1_1, x1_2, x1_3, f1⟩ := blk4 k1
    have z1 := k1.1
    have k2 := blk_below q2 hb
    obtain ⟨x2_0, x2_1, x2_2, x2_3, f2⟩ := blk4 k2
    have z2 := k2.1
    have k3 := blk_below q3 hb
    obtain ⟨x3_0, x3_1, x3_2, f3⟩ := v_blk3 k3
    have z3 := k3.1
    exact ⟨x0_0, x0_1, x0_2, x0_3, x1_0, x1_1, x1_2, x1_3, x2_0, x2_1, x2_2, x2_3, x3_0, x3_1, x3_2, f3, z0, z1, z2, z3⟩)
  clear hW qb q0 q1 q2 q3
  have HBI : Hid (Below W.heap.size W W) := Below.refl _ _
  obtain ⟨c0_0, c0_1, c0_2, c0_3, c1_0, c1_1, c1_2, c1_3, c2_0, c2_1, c2_2, c2_3, c3_0, c3_1, c3_2, cf, s0, s1, s2, s3⟩ := HK.out W HBI.out
  go_wp2_with fail
  refine (HSUB.out _ (b_call HB0.out HBW.out)).mono ?_
  rintro e w8 ⟨ta, tc, ka, kc, rfl, hr1, hr2, hf1, hf2, hb8⟩
  have HR1 := Lib.hid hr1; have HR2 := Lib.hid hr2; have HF1 := Lib.hid hf1; have HF2 := Lib.hid hf2; have HB8 := Lib.hid hb8
  clear hr1 hr2 hf1 hf2 hb8
  clear c0_0 c0_1 c0_2 c0_3 c1_0 c1_1 c1_2 c1_3 c2_0 c2_1 c2_2 c2_3 c3_0 c3_1 c3_2 cf s0 s1 s2 s3
  obtain ⟨c0_0, c0_1, c0_2, c0_3, c1_0, c1_1, c1_2, c1_3, c2_0, c2_1, c2_2, c2_3, c3_0, c3_1, c3_2, cf, s0, s1, s2, s3⟩ := HK.out w8 HB8.out
  have HSX := Lib.hid (HK.out _ HBI.out)
  have HSW := Lib.hid HBW.out.size
  unfold aggD
  go_wp2_with fail
  have hx : w.heap.size + 3 < W.heap.size := by have := HSX.out; omega
  exact bodyPost_ret (v := .agg #[.slice ta D.t.length tc, .slice ka D.p.length kc, .int .i64 D.c]) (by simp [results, Try.results110, go_sem, c3_0, c3_1, c3_2]) rfl (by
    show RetF _ _ _ _ _
    exact ⟨_, _, _, _, rfl, readI_far HR1.out HF1.out (by have := HW0.out; omega) hx (gb_set3 _ _ _ _ _), readI_far HR2.out HF2.out (by have := HW0.out; omega) hx (gb_set3 _ _ _ _ _), far_mono HF1.out HSW.out, far_mono HF2.out HSW.out, b_grown (b_call HBW.out HB8.out) (gb_set3 _ _ _ _ _) (by omega)⟩)
set_option maxRecDepth 100000 in
set_option maxHeartbeats 2000000 in
theorem vdeals14 (p : PrV) (P : PrM) (v : FnV) (f : FnM) (x a b : Int) (W0 w : World) (h : ReadP W0 p P) (hb : Below W0.heap.size W0 w) (hs : SmallP P) (hf : DeepF W0 v f) (hsf : SmallF f) (ha : 0 ≤ a) : Calls Try.prog 110 #[aggP p, aggF v, .agg #[.int .i64 14, .int .u64 x, .int .i64 a, .int .i64 b]] w (RetF W0.heap.size w (ifNamed (inFs P a) ⟨(fnAtM P a).ps, [(fnAtM P a).r], 0⟩)) := by
  obtain ⟨D, hD⟩ : ∃ D : Deal, D = ifNamed (inFs P a) ⟨(fnAtM P a).ps, [(fnAtM P a).r], 0⟩ := ⟨_, rfl⟩
  rw [← hD]
  obtain ⟨u, ⟨ga, gn, gc⟩, m, ⟨fa, fn, fc⟩⟩ := p
  obtain ⟨⟨pa, pn, pc⟩, ⟨la, ln, lc⟩, r, ⟨ca, cn, cc⟩⟩ := v
  have HSUB : Hid (∀ w', Below W0.heap.size W0 w' → Calls Try.prog 128 #[aggP ⟨u, ⟨ga, gn, gc⟩, m, ⟨fa, fn, fc⟩⟩, .agg #[.int .i64 14, .int .u64 x, .int .i64 a, .int .i64 b]] w' (RetF W0.heap.size w' D)) := Lib.hid (fun w' hb' => by rw [hD]; exact vcalls14 ⟨u, ⟨ga, gn, gc⟩, m, ⟨fa, fn, fc⟩⟩ P x a b W0 w' h hb' hs ha)
  have HB0 := Lib.hid hb
  clear hD
  unfold aggP aggF Sl.v
  simp only
  have HW0 := Lib.hid hb.size
  clear h hb hs hf hsf
  (try unfold aggP at HSUB)
  (try unfold aggF at HSUB)
  (try unfold Sl.v at HSUB)
  (try simp only at HSUB)
  go_enter Try.func110, Try.ntmps110
  go_upto_region 1 with fail
  refine wp_named ?_
  intro W hW
  obtain ⟨q0, q1, q2, q3, qb⟩ := boxes4 w #[.bool u, .slice ga gn gc, .int .i64 m, .slice fa fn fc] #[.slice pa pn pc, .slice la ln lc, .int .i64 r, .slice ca cn cc] #[.int .i64 14, .int .u64 x, .int .i64 a, .int .i64 b] #[.slice none 0 0, .slice none 0 0, .int .i64 0] 31 122 123 179
  rw [← hW] at q0 q1 q2 q3 qb
  have HBW := Lib.hid qb
  have HK : Hid (∀ w', Below W.heap.size W w' → w'.cell? ⟨w.heap.size, 0, none⟩ = some (.bool u) ∧ w'.cell? ⟨w.heap.size, 1, none⟩ = some (.slice ga gn gc) ∧ w'.cell? ⟨w.heap.size, 2, none⟩ = some (.int .i64 m) ∧ w'.cell? ⟨w.heap.size, 3, none⟩ = some (.slice fa fn fc) ∧ w'.cell? ⟨w.heap.size + 1, 0, none⟩ = some (.slice pa pn pc) ∧ w'.cell? ⟨w.heap.size + 1, 1, none⟩ = some (.slice la ln lc) ∧ w'.cell? ⟨w.heap.size + 1, 2, none⟩ = some (.int .i64 r) ∧ w'.cell? ⟨w.heap.size + 1, 3, none⟩ = some (.slice ca cn cc) ∧ w'.cell? ⟨w.heap.size + 2, 0, none⟩ = some (.int .i64 14) ∧ w'.cell? ⟨w.heap.size + 2, 1, none⟩ = some (.int .u64 x) ∧ w'.cell? ⟨w.heap.size + 2, 2, none⟩ = some (.int .i64 a) ∧ w'.cell? ⟨w.heap.size + 2, 3, none⟩ = some (.int .i64 b) ∧ w'.cell? ⟨w.heap.size + 3, 0, none⟩ = some (.slice none 0 0) ∧ w'.cell? ⟨w.heap.size + 3, 1, none⟩ = some (.slice none 0 0) ∧ w'.cell? ⟨w.heap.size + 3, 2, none⟩ = some (.int .i64 0) ∧ (∀ i, w'.frozen? ⟨w.heap.size + 3, i, none⟩ = false) ∧ w.heap.size < w'.heap.size ∧ w.heap.size + 1 < w'.heap.size ∧ w.heap.size + 1 + 1 < w'.heap.size ∧ w.heap.size + 1 + 1 + 1 < w'.heap.size) := Lib.hid (fun w' hb => by
    have k0 := blk_below q0 hb
    obtain ⟨x0_0, x0_1, x0_2, x0_3, f0⟩ := blk4 k0
    have z0 := k0.1
    have k1 := blk_below q1 hb
    obtain ⟨x1_0, x1_1, x1_2, x1_3, f1⟩ := blk4 k1
    have z1 := k1.1
    have k2 := blk_below q2 hb
    obtain ⟨x2_0, x2_1, x2_2, x2_3, f2⟩ := blk4 k2
    have z2 := k2.1
    have k3 := blk_below q3 hb
    obtain ⟨x3_0, x3_1, x3_2, f3⟩ := v_blk3 k3
    have z3 := k3.1
    exact ⟨x0_0, x0_1, x0_2, x0_3, x1_0, x1_1, x1_2, x1_3, x2_0, x2_1, x2_2, x2_3, x3_0, x3_1, x3_2, f3, z0, z1, z2, z3⟩)
  clear hW qb q0 q1 q2 q3
  have HBI : Hid (Below W.heap.size W W) := Below.refl _ _
  obtain ⟨c0_0, c0_1, c0_2, c0_3, c1_0, c1_1, c1_2, c1_3, c2_0, c2_1, c2_2, c2_3, c3_0, c3_1, c3_2, cf, s0, s1, s2, s3⟩ := HK.out W HBI.out
  go_wp2_with fail
  refine (HSUB.out _ (b_call HB0.out HBW.out)).mono ?_
  rintro e w8 ⟨ta, tc, ka, kc, rfl, hr1, hr2, hf1, hf2, hb8⟩
  have HR1 := Lib.hid hr1; have HR2 := Lib.hid hr2; have HF1 := Lib.hid hf1; have HF2 := Lib.hid hf2; have HB8 := Lib.hid hb8
  clear hr1 hr2 hf1 hf2 hb8
  clear c0_0 c0_1 c0_2 c0_3 c1_0 c1_1 c1_2 c1_3 c2_0 c2_1 c2_2 c2_3 c3_0 c3_1 c3_2 cf s0 s1 s2 s3
  obtain ⟨c0_0, c0_1, c0_2, c0_3, c1_0, c1_1, c1_2, c1_3, c2_0, c2_1, c2_2, c2_3, c3_0, c3_1, c3_2, cf, s0, s1, s2, s3⟩ := HK.out w8 HB8.out
  have HSX := Lib.hid (HK.out _ HBI.out)
  have HSW := Lib.hid HBW.out.size
  unfold aggD
  go_wp2_with fail
  have hx : w.heap.size + 3 < W.heap.size := by have := HSX.out; omega
  exact bodyPost_ret (v := .agg #[.slice ta D.t.length tc, .slice ka D.p.length kc, .int .i64 D.c]) (by simp [results, Try.results110, go_sem, c3_0, c3_1, c3_2]) rfl (by
    show RetF _ _ _ _ _
    exact ⟨_, _, _, _, rfl, readI_far HR1.out HF1.out (by have := HW0.out; omega) hx (gb_set3 _ _ _ _ _), readI_far HR2.out HF2.out (by have := HW0.out; omega) hx (gb_set3 _ _ _ _ _), far_mono HF1.out HSW.out, far_mono HF2.out HSW.out, b_grown (b_call HBW.out HB8.out) (gb_set3 _ _ _ _ _) (by omega)⟩)
set_option maxRecDepth 100000 in
set_option maxHeartbeats 2000000 in
theorem vdeals28 (p : PrV) (P : PrM) (v : FnV) (f : FnM) (x a b : Int) (W0 w : World) (h : ReadP W0 p P) (hb : Below W0.heap.size W0 w) (hs : SmallP P) (hf : DeepF W0 v f) (hsf : SmallF f) (ha : 0 ≤ a) : Calls Try.prog 110 #[aggP p, aggF v, .agg #[.int .i64 28, .int .u64 x, .int .i64 a, .int .i64 b]] w (RetF W0.heap.size w (ifNamed (inFs P a) (if (fnAtM P a).ps = [0] ∧ (fnAtM P a).r = 0 then ⟨[0], [0], 0⟩ else bad 7))) := by
  obtain ⟨D, hD⟩ : ∃ D : Deal, D = ifNamed (inFs P a) (if (fnAtM P a).ps = [0] ∧ (fnAtM P a).r = 0 then ⟨[0], [0], 0⟩ else bad 7) := ⟨_, rfl⟩
  rw [← hD]
  obtain ⟨u, ⟨ga, gn, gc⟩, m, ⟨fa, fn, fc⟩⟩ := p
  obtain ⟨⟨pa, pn, pc⟩, ⟨la, ln, lc⟩, r, ⟨ca, cn, cc⟩⟩ := v
  have HSUB : Hid (∀ w', Below W0.heap.size W0 w' → Calls Try.prog 128 #[aggP ⟨u, ⟨ga, gn, gc⟩, m, ⟨fa, fn, fc⟩⟩, .agg #[.int .i64 28, .int .u64 x, .int .i64 a, .int .i64 b]] w' (RetF W0.heap.size w' D)) := Lib.hid (fun w' hb' => by rw [hD]; exact vcalls28 ⟨u, ⟨ga, gn, gc⟩, m, ⟨fa, fn, fc⟩⟩ P x a b W0 w' h hb' hs ha)
  have HB0 := Lib.hid hb
  clear hD
  unfold aggP aggF Sl.v
  simp only
  have HW0 := Lib.hid hb.size
  clear h hb hs hf hsf
  (try unfold aggP at HSUB)
  (try unfold aggF at HSUB)
  (try unfold Sl.v at HSUB)
  (try simp only at HSUB)
  go_enter Try.func110, Try.ntmps110
  go_upto_region 1 with fail
  refine wp_named ?_
  intro W hW
  obtain ⟨q0, q1, q2, q3, qb⟩ := boxes4 w #[.bool u, .slice ga gn gc, .int .i64 m, .slice fa fn fc] #[.slice pa pn pc, .slice la ln lc, .int .i64 r, .slice ca cn cc] #[.int .i64 28, .int .u64 x, .int .i64 a, .int .i64 b] #[.slice none 0 0, .slice none 0 0, .int .i64 0] 31 122 123 179
  rw [← hW] at q0 q1 q2 q3 qb
  have HBW := Lib.hid qb
  have HK : Hid (∀ w', Below W.heap.size W w' → w'.cell? ⟨w.heap.size, 0, none⟩ = some (.bool u) ∧ w'.cell? ⟨w.heap.size, 1, none⟩ = some (.slice ga gn gc) ∧ w'.cell? ⟨w.heap.size, 2, none⟩ = some (.int .i64 m) ∧ w'.cell? ⟨w.heap.size, 3, none⟩ = some (.slice fa fn fc) ∧ w'.cell? ⟨w.heap.size + 1, 0, none⟩ = some (.slice pa pn pc) ∧ w'.cell? ⟨w.heap.size + 1, 1, none⟩ = some (.slice la ln lc) ∧ w'.cell? ⟨w.heap.size + 1, 2, none⟩ = some (.int .i64 r) ∧ w'.cell? ⟨w.heap.size + 1, 3, none⟩ = some (.slice ca cn cc) ∧ w'.cell? ⟨w.heap.size + 2, 0, none⟩ = some (.int .i64 28) ∧ w'.cell? ⟨w.heap.size + 2, 1, none⟩ = some (.int .u64 x) ∧ w'.cell? ⟨w.heap.size + 2, 2, none⟩ = some (.int .i64 a) ∧ w'.cell? ⟨w.heap.size + 2, 3, none⟩ = some (.int .i64 b) ∧ w'.cell? ⟨w.heap.size + 3, 0, none⟩ = some (.slice none 0 0) ∧ w'.cell? ⟨w.heap.size + 3, 1, none⟩ = some (.slice none 0 0) ∧ w'.cell? ⟨w.heap.size + 3, 2, none⟩ = some (.int .i64 0) ∧ (∀ i, w'.frozen? ⟨w.heap.size + 3, i, none⟩ = false) ∧ w.heap.size < w'.heap.size ∧ w.heap.size + 1 < w'.heap.size ∧ w.heap.size + 1 + 1 < w'.heap.size ∧ w.heap.size + 1 + 1 + 1 < w'.heap.size) := Lib.hid (fun w' hb => by
    have k0 := blk_below q0 hb
    obtain ⟨x0_0, x0_1, x0_2, x0_3, f0⟩ := blk4 k0
    have z0 := k0.1
    have k1 := blk_below q1 hb
    obtain ⟨x1_0, x1_1, x1_2, x1_3, f1⟩ := blk4 k1
    have z1 := k1.1
    have k2 := blk_below q2 hb
    obtain ⟨x2_0, x2_1, x2_2, x2_3, f2⟩ := blk4 k2
    have z2 := k2.1
    have k3 := blk_below q3 hb
    obtain ⟨x3_0, x3_1, x3_2, f3⟩ := v_blk3 k3
    have z3 := k3.1
    exact ⟨x0_0, x0_1, x0_2, x0_3, x1_0, x1_1, x1_2, x1_3, x2_0, x2_1, x2_2, x2_3, x3_0, x3_1, x3_2, f3, z0, z1, z2, z3⟩)
  clear hW qb q0 q1 q2 q3
  have HBI : Hid (Below W.heap.size W W) := Below.refl _ _
  obtain ⟨c0_0, c0_1, c0_2, c0_3, c1_0, c1_1, c1_2, c1_3, c2_0, c2_1, c2_2, c2_3, c3_0, c3_1, c3_2, cf, s0, s1, s2, s3⟩ := HK.out W HBI.out
  go_wp2_with fail
  refine (HSUB.out _ (b_call HB0.out HBW.out)).mono ?_
  rintro e w8 ⟨ta, tc, ka, kc, rfl, hr1, hr2, hf1, hf2, hb8⟩
  have HR1 := Lib.hid hr1; have HR2 := Lib.hid hr2; have HF1 := Lib.hid hf1; have HF2 := Lib.hid hf2; have HB8 := Lib.hid hb8
  clear hr1 hr2 hf1 hf2 hb8
  clear c0_0 c0_1 c0_2 c0_3 c1_0 c1_1 c1_2 c1_3 c2_0 c2_1 c2_2 c2_3 c3_0 c3_1 c3_2 cf s0 s1 s2 s3
  obtain ⟨c0_0, c0_1, c0_2, c0_3, c1_0, c1_1, c1_2, c1_3, c2_0, c2_1, c2_2, c2_3, c3_0, c3_1, c3_2, cf, s0, s1, s2, s3⟩ := HK.out w8 HB8.out
  have HSX := Lib.hid (HK.out _ HBI.out)
  have HSW := Lib.hid HBW.out.size
  unfold aggD
  go_wp2_with fail
  have hx : w.heap.size + 3 < W.heap.size := by have := HSX.out; omega
  exact bodyPost_ret (v := .agg #[.slice ta D.t.length tc, .slice ka D.p.length kc, .int .i64 D.c]) (by simp [results, Try.results110, go_sem, c3_0, c3_1, c3_2]) rfl (by
    show RetF _ _ _ _ _
    exact ⟨_, _, _, _, rfl, readI_far HR1.out HF1.out (by have := HW0.out; omega) hx (gb_set3 _ _ _ _ _), readI_far HR2.out HF2.out (by have := HW0.out; omega) hx (gb_set3 _ _ _ _ _), far_mono HF1.out HSW.out, far_mono HF2.out HSW.out, b_grown (b_call HBW.out HB8.out) (gb_set3 _ _ _ _ _) (by omega)⟩)
end Go.Proofs.Ytdmidnmciaediaa
