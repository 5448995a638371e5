/- Layer 26: the contracts of the program's calls, places. Conditions: those stated. -/
import Derived.Test.YtdmidnmciaediaaZVer4
namespace Go.Proofs.Ytdmidnmciaediaa
open Go.RowKit
set_option linter.unusedVariables false
set_option linter.unusedSimpArgs false
attribute [local go_sem] over_cell over_frozen
set_option maxRecDepth 100000 in
set_option maxHeartbeats 2000000 in
theorem vcalls14 (p : PrV) (P : PrM) (x a b : Int) (W0 w : World) (h : ReadP W0 p P) (hb : Below W0.heap.size W0 w) (hs : SmallP P) (ha : 0 ≤ a) : Calls Try.prog 128 #[aggP p, .agg #[.int .i64 14, .int .u64 x, .int .i64 a, .int .i64 b]] w (RetF W0.heap.size w (ifNamed (inFs P a) ⟨(fnAtM P a).ps, [(fnAtM P a).r], 0⟩)) := by
  obtain ⟨n1, n2, n3⟩ := fn_len h
  have HS := Lib.hid hs
  have HB0 := Lib.hid hb
  rcases inFs_cases P ha with ⟨hin, hge⟩ | ⟨k, rfl, hk, hin, hfn⟩
  · rw [hin]
    show Calls _ _ _ _ (RetF W0.heap.size w (bad 5))
    obtain ⟨u, ⟨ga, gn, gc⟩, m, ⟨fa, fn, fc⟩⟩ := p
    simp only at n1 n2 n3
    subst n1
    have hno : ¬ (a < P.fs.length) := by omega
    unfold aggP Sl.v
    simp only
    clear h hs hin hb
    go_enter Try.func128, Try.ntmps128
    go_upto_region 1 with fail
    refine wp_named ?_
    intro W hW
    obtain ⟨q0, q1, q2, qb⟩ := boxes3 w #[.bool u, .slice ga gn gc, .int .i64 m, .slice fa P.fs.length fc] #[.int .i64 14, .int .u64 x, .int .i64 a, .int .i64 b] #[.slice none 0 0, .slice none 0 0, .int .i64 0] 31 123 179
    rw [← hW] at q0 q1 q2 qb
    have HBW := Lib.hid qb
    have HK : Hid (∀ w', Below W.heap.size W w' → w'.cell? ⟨w.heap.size, 0, none⟩ = some (.bool u) ∧ w'.cell? ⟨w.heap.size, 1, none⟩ = some (.slice ga gn gc) ∧ w'.cell? ⟨w.heap.size, 2, none⟩ = some (.int .i64 m) ∧ w'.cell? ⟨w.heap.size, 3, none⟩ = some (.slice fa P.fs.length fc) ∧ w'.cell? ⟨w.heap.size + 1, 0, none⟩ = some (.int .i64 14) ∧ w'.cell? ⟨w.heap.size + 1, 1, none⟩ = some (.int .u64 x) ∧ w'.cell? ⟨w.heap.size + 1, 2, none⟩ = some (.int .i64 a) ∧ w'.cell? ⟨w.heap.size + 1, 3, none⟩ = some (.int .i64 b) ∧ w'.cell? ⟨w.heap.size + 2, 0, none⟩ = some (.slice none 0 0) ∧ w'.cell? ⟨w.heap.size + 2, 1, none⟩ = some (.slice none 0 0) ∧ w'.cell? ⟨w.heap.size + 2, 2, none⟩ = some (.int .i64 0) ∧ (∀ i, w'.frozen? ⟨w.heap.size + 2, i, none⟩ = false) ∧ w.heap.size < w'.heap.size ∧ w.heap.size + 1 < w'.heap.size ∧ w.heap.size + 1 + 1 < w'.heap.size) := Lib.hid (fun w' hb => by
      have k0 := blk_below q0 hb
      obtain ⟨x0_0, x0_1, x0_2, x0_3, f0⟩ := blk4 k0
      have z0 := k0.1
      have k1 := blk_below q1 hb
      obtain ⟨x1_0, x1_1, x1_2, x1_3, f1⟩ := blk4 k1
      have z1 := k1.1
      have k2 := blk_below q2 hb
      obtain ⟨x2_0, x2_1, x2_2, f2⟩ := v_blk3 k2
      have z2 := k2.1
      exact ⟨x0_0, x0_1, x0_2, x0_3, x1_0, x1_1, x1_2, x1_3, x2_0, x2_1, x2_2, f2, z0, z1, z2⟩)
    clear hW qb q0 q1 q2
    have HBI : Hid (Below W.heap.size W W) := Below.refl _ _
    obtain ⟨c0_0, c0_1, c0_2, c0_3, c1_0, c1_1, c1_2, c1_3, c2_0, c2_1, c2_2, cf, s0, s1, s2⟩ := HK.out W HBI.out
    go_wp2_with fail
    refine (vwrong_any _ _).mono ?_
    rintro e w9 ⟨rfl, hb9⟩
    have HB9 := Lib.hid (b_call HBI.out hb9)
    clear c0_0 c0_1 c0_2 c0_3 c1_0 c1_1 c1_2 c1_3 c2_0 c2_1 c2_2 cf s0 s1 s2
    clear hb9
    obtain ⟨c0_0, c0_1, c0_2, c0_3, c1_0, c1_1, c1_2, c1_3, c2_0, c2_1, c2_2, cf, s0, s1, s2⟩ := HK.out w9 HB9.out
    unfold aggD
    go_wp2_with fail
    exact bodyPost_ret (v := .agg #[.slice none 0 0, .slice none 0 0, .int .i64 5]) (by simp [results, Try.results128, go_sem, c2_0, c2_1, c2_2]) rfl (by
      show RetF _ _ _ _ _
      exact ⟨_, _, _, _, rfl, readI_nil _, readI_nil _, far_nil _ _ _ _ _, far_nil _ _ _ _ _, b_grown (b_call HBW.out HB9.out) (gb_set3 _ _ _ _ _) (by omega)⟩)
  · rw [hin, hfn]
    show Calls _ _ _ _ (RetF W0.heap.size w (⟨(P.fs[k]).ps, [(P.fs[k]).r], 0⟩))
    obtain ⟨bb, oo, ea, hlt, v, hd, e0, e1, e2, e3⟩ := fn_at h hk
    have HD := Lib.hid hd
    have hsm := (hs.a _ (List.getElem_mem hk)).p
    obtain ⟨u, ⟨ga, gn, gc⟩, m, ⟨fa, fn, fc⟩⟩ := p
    simp only at n1 n2 n3 ea
    subst n1 ea
    obtain ⟨⟨pa, pn, pc⟩, ⟨la, ln, lc⟩, r, ⟨ca, cn, cc⟩⟩ := v
    obtain ⟨g1, g2, g3⟩ := int_len hd.p
    simp only at g1 g2 g3 e0 e1 e2 e3
    have k0 : (0 : Int) ≤ k := by omega
    have k1 : (k : Int) < P.fs.length := by omega
    have k2 : k < fc := by omega
    generalize P.fs[k] = f at *
    subst g1
    have HP : Hid (ReadI W0 (.slice pa f.ps.length pc) f.ps) := Lib.hid hd.p
    have HE := Lib.hid (And.intro e0 (And.intro e1 (And.intro e2 e3)))
    have HLT := Lib.hid hlt
    unfold aggP Sl.v
    simp only
    clear h hs hin hfn hd hb e0 e1 e2 e3 hlt
    go_enter Try.func128, Try.ntmps128
    go_upto_region 1 with fail
    refine wp_named ?_
    intro W hW
    obtain ⟨q0, q1, q2, qb⟩ := boxes3 w #[.bool u, .slice ga gn gc, .int .i64 m, .slice (some ⟨bb, oo, none⟩) P.fs.length fc] #[.int .i64 14, .int .u64 x, .int .i64 k, .int .i64 b] #[.slice none 0 0, .slice none 0 0, .int .i64 0] 31 123 179
    rw [← hW] at q0 q1 q2 qb
    have HBW := Lib.hid qb
    have HK : Hid (∀ w', Below W.heap.size W w' → w'.cell? ⟨w.heap.size, 0, none⟩ = some (.bool u) ∧ w'.cell? ⟨w.heap.size, 1, none⟩ = some (.slice ga gn gc) ∧ w'.cell? ⟨w.heap.size, 2, none⟩ = some (.int .i64 m) ∧ w'.cell? ⟨w.heap.size, 3, none⟩ = some (.slice (some ⟨bb, oo, none⟩) P.fs.length fc) ∧ w'.cell? ⟨w.heap.size + 1, 0, none⟩ = some (.int .i64 14) ∧ w'.cell? ⟨w.heap.size + 1, 1, none⟩ = some (.int .u64 x) ∧ w'.cell? ⟨w.heap.size + 1, 2, none⟩ = some (.int .i64 k) ∧ w'.cell? ⟨w.heap.size + 1, 3, none⟩ = some (.int .i64 b) ∧ w'.cell? ⟨w.heap.size + 2, 0, none⟩ = some (.slice none 0 0) ∧ w'.cell? ⟨w.heap.size + 2, 1, none⟩ = some (.slice none 0 0) ∧ w'.cell? ⟨w.heap.size + 2, 2, none⟩ = some (.int .i64 0) ∧ (∀ i, w'.frozen? ⟨w.heap.size + 2, i, none⟩ = false) ∧ w.heap.size < w'.heap.size ∧ w.heap.size + 1 < w'.heap.size ∧ w.heap.size + 1 + 1 < w'.heap.size) := Lib.hid (fun w' hb => by
      have k0 := blk_below q0 hb
      obtain ⟨x0_0, x0_1, x0_2, x0_3, f0⟩ := blk4 k0
      have z0 := k0.1
      have k1 := blk_below q1 hb
      obtain ⟨x1_0, x1_1, x1_2, x1_3, f1⟩ := blk4 k1
      have z1 := k1.1
      have k2 := blk_below q2 hb
      obtain ⟨x2_0, x2_1, x2_2, f2⟩ := v_blk3 k2
      have z2 := k2.1
      exact ⟨x0_0, x0_1, x0_2, x0_3, x1_0, x1_1, x1_2, x1_3, x2_0, x2_1, x2_2, f2, z0, z1, z2⟩)
    clear hW qb q0 q1 q2
    have HBI : Hid (Below W.heap.size W W) := Below.refl _ _
    obtain ⟨c0_0, c0_1, c0_2, c0_3, c1_0, c1_1, c1_2, c1_3, c2_0, c2_1, c2_2, cf, s0, s1, s2⟩ := HK.out W HBI.out
    have hbw := b_call HB0.out HBW.out
    have d0 := ((bcell hbw).1 _ _ HLT.out).trans HE.out.1
    have d1 := ((bcell hbw).1 _ _ HLT.out).trans HE.out.2.1
    have d2 := ((bcell hbw).1 _ _ HLT.out).trans HE.out.2.2.1
    have d3 := ((bcell hbw).1 _ _ HLT.out).trans HE.out.2.2.2
    go_upto_region 4 with fail
    refine wp_named ?_
    intro W2 hW2
    have BG : Blk W2 W.heap.size [.slice pa f.ps.length pc, .slice la ln lc, .int .i64 f.r, .slice ca cn cc] := by
      rw [hW2]
      first | exact blk_new _ _ _ | exact blk_set (blk_set (blk_set (blk_set (blk_new W _ _) 0 _) 1 _) 2 _) 3 _
    have hb2 : Below W.heap.size W W2 := by
      rw [hW2]
      first | exact b_alloc (Below.refl _ _) _ | exact b_grown (b_alloc (Below.refl _ _) _) (gb_set (gb_set (gb_set (gb_set (gb_refl _ (some W.heap.size)) _ _ _) _ _ _) _ _ _) _ _ _) (Nat.le_refl _)
    have HB2 := Lib.hid hb2
    have HBG := Lib.hid BG
    have HP2 := Lib.hid (readI_below HP.out (b_call hbw hb2))
    have HSZ := Lib.hid (b_call HBW.out hb2).size
    have HS0 := Lib.hid hbw.size
    have HS00 := Lib.hid HB0.out.size
    clear hW2 hb2 d0 d1 d2 d3 hbw
    obtain ⟨y0, y1, y2, y3, yf⟩ := blk4 BG
    have yz := BG.1
    clear BG
    clear c0_0 c0_1 c0_2 c0_3 c1_0 c1_1 c1_2 c1_3 c2_0 c2_1 c2_2 cf s0 s1 s2
    obtain ⟨c0_0, c0_1, c0_2, c0_3, c1_0, c1_1, c1_2, c1_3, c2_0, c2_1, c2_2, cf, s0, s1, s2⟩ := HK.out W2 HB2.out
    go_wp2_with fail
    refine (vof_any _ _ _ _ _ _ _).mono ?_
    rintro e w8 ⟨rfl, hb8⟩
    have HB8 := Lib.hid (b_call (b_alloc HB2.out _) hb8)
    have HC := Lib.hid hb8
    clear hb8 y0 y1 y2 y3 yf yz
    clear c0_0 c0_1 c0_2 c0_3 c1_0 c1_1 c1_2 c1_3 c2_0 c2_1 c2_2 cf s0 s1 s2
    obtain ⟨c0_0, c0_1, c0_2, c0_3, c1_0, c1_1, c1_2, c1_3, c2_0, c2_1, c2_2, cf, s0, s1, s2⟩ := HK.out w8 HB8.out
    have HSX := Lib.hid (HK.out _ HB2.out)
    unfold aggD
    go_wp2_with fail
    have hx : w.heap.size + 2 < W2.heap.size := by have := HSX.out; omega
    exact bodyPost_ret (v := .agg #[.slice pa f.ps.length pc, .slice (some ⟨W2.heap.size, 0, none⟩) 1 1, .int .i64 0]) (by simp [results, Try.results128, go_sem, c2_0, c2_1, c2_2]) rfl (by
      show RetF _ _ _ _ _
      exact ⟨_, _, _, _, rfl, readI_far (B := W0.heap.size) (w0 := W2) (readI_below HP2.out (b_call (b_alloc (Below.refl _ _) _) HC.out)) (far_read HP.out) (by have := HS00.out; omega) hx (gb_set3 _ _ _ _ _), lit_far (w2 := W2) [f.r] rfl (by simp) HC.out (gb_set3 _ _ _ _ _) hx, far_read HP.out, far_new (by have := HSZ.out; omega), b_grown (b_call HBW.out HB8.out) (gb_set3 _ _ _ _ _) (by omega)⟩)
set_option maxRecDepth 100000 in
set_option maxHeartbeats 2000000 in
theorem vcalls28 (p : PrV) (P : PrM) (x a b : Int) (W0 w : World) (h : ReadP W0 p P) (hb : Below W0.heap.size W0 w) (hs : SmallP P) (ha : 0 ≤ a) : Calls Try.prog 128 #[aggP p, .agg #[.int .i64 28, .int .u64 x, .int .i64 a, .int .i64 b]] w (RetF W0.heap.size w (ifNamed (inFs P a) (if (fnAtM P a).ps = [0] ∧ (fnAtM P a).r = 0 then ⟨[0], [0], 0⟩ else bad 7))) := by
  obtain ⟨n1, n2, n3⟩ := fn_len h
  have HS := Lib.hid hs
  have HB0 := Lib.hid hb
  rcases inFs_cases P ha with ⟨hin, hge⟩ | ⟨k, rfl, hk, hin, hfn⟩
  · rw [hin]
    show Calls _ _ _ _ (RetF W0.heap.size w (bad 5))
    obtain ⟨u, ⟨ga, gn, gc⟩, m, ⟨fa, fn, fc⟩⟩ := p
    simp only at n1 n2 n3
    subst n1
    have hno : ¬ (a < P.fs.length) := by omega
    unfold aggP Sl.v
    simp only
    clear h hs hin hb
    go_enter Try.func128, Try.ntmps128
    go_upto_region 1 with fail
    refine wp_named ?_
    intro W hW
    obtain ⟨q0, q1, q2, qb⟩ := boxes3 w #[.bool u, .slice ga gn gc, .int .i64 m, .slice fa P.fs.length fc] #[.int .i64 28, .int .u64 x, .int .i64 a, .int .i64 b] #[.slice none 0 0, .slice none 0 0, .int .i64 0] 31 123 179
    rw [← hW] at q0 q1 q2 qb
    have HBW := Lib.hid qb
    have HK : Hid (∀ w', Below W.heap.size W w' → w'.cell? ⟨w.heap.size, 0, none⟩ = some (.bool u) ∧ w'.cell? ⟨w.heap.size, 1, none⟩ = some (.slice ga gn gc) ∧ w'.cell? ⟨w.heap.size, 2, none⟩ = some (.int .i64 m) ∧ w'.cell? ⟨w.heap.size, 3, none⟩ = some (.slice fa P.fs.length fc) ∧ w'.cell? ⟨w.heap.size + 1, 0, none⟩ = some (.int .i64 28) ∧ w'.cell? ⟨w.heap.size + 1, 1, none⟩ = some (.int .u64 x) ∧ w'.cell? ⟨w.heap.size + 1, 2, none⟩ = some (.int .i64 a) ∧ w'.cell? ⟨w.heap.size + 1, 3, none⟩ = some (.int .i64 b) ∧ w'.cell? ⟨w.heap.size + 2, 0, none⟩ = some (.slice none 0 0) ∧ w'.cell? ⟨w.heap.size + 2, 1, none⟩ = some (.slice none 0 0) ∧ w'.cell? ⟨w.heap.size + 2, 2, none⟩ = some (.int .i64 0) ∧ (∀ i, w'.frozen? ⟨w.heap.size + 2, i, none⟩ = false) ∧ w.heap.size < w'.heap.size ∧ w.heap.size + 1 < w'.heap.size ∧ w.heap.size + 1 + 1 < w'.heap.size) := Lib.hid (fun w' hb => by
      have k0 := blk_below q0 hb
      obtain ⟨x0_0, x0_1, x0_2, x0_3, f0⟩ := blk4 k0
      have z0 := k0.1
      have k1 := blk_below q1 hb
      obtain ⟨x1_0, x1_1, x1_2, x1_3, f1⟩ := blk4 k1
      have z1 := k1.1
      have k2 := blk_below q2 hb
      obtain ⟨x2_0, x2_1, x2_2, f2⟩ := v_blk3 k2
      have z2 := k2.1
      exact ⟨x0_0, x0_1, x0_2, x0_3, x1_0, x1_1, x1_2, x1_3, x2_0, x2_1, x2_2, f2, z0, z1, z2⟩)
    clear hW qb q0 q1 q2
    have HBI : Hid (Below W.heap.size W W) := Below.refl _ _
    obtain ⟨c0_0, c0_1, c0_2, c0_3, c1_0, c1_1, c1_2, c1_3, c2_0, c2_1, c2_2, cf, s0, s1, s2⟩ := HK.out W HBI.out
    go_wp2_with fail
    refine (vwrong_any _ _).mono ?_
    rintro e w9 ⟨rfl, hb9⟩
    have HB9 := Lib.hid (b_call HBI.out hb9)
    clear c0_0 c0_1 c0_2 c0_3 c1_0 c1_1 c1_2 c1_3 c2_0 c2_1 c2_2 cf s0 s1 s2
    clear hb9
    obtain ⟨c0_0, c0_1, c0_2, c0_3, c1_0, c1_1, c1_2, c1_3, c2_0, c2_1, c2_2, cf, s0, s1, s2⟩ := HK.out w9 HB9.out
    unfold aggD
    go_wp2_with fail
    exact bodyPost_ret (v := .agg #[.slice none 0 0, .slice none 0 0, .int .i64 5]) (by simp [results, Try.results128, go_sem, c2_0, c2_1, c2_2]) rfl (by
      show RetF _ _ _ _ _
      exact ⟨_, _, _, _, rfl, readI_nil _, readI_nil _, far_nil _ _ _ _ _, far_nil _ _ _ _ _, b_grown (b_call HBW.out HB9.out) (gb_set3 _ _ _ _ _) (by omega)⟩)
  · rw [hin, hfn]
    show Calls _ _ _ _ (RetF W0.heap.size w (if (P.fs[k]).ps = [0] ∧ (P.fs[k]).r = 0 then ⟨[0], [0], 0⟩ else bad 7))
    obtain ⟨bb, oo, ea, hlt, v, hd, e0, e1, e2, e3⟩ := fn_at h hk
    have HD := Lib.hid hd
    have hsm := (hs.a _ (List.getElem_mem hk)).p
    obtain ⟨u, ⟨ga, gn, gc⟩, m, ⟨fa, fn, fc⟩⟩ := p
    simp only at n1 n2 n3 ea
    subst n1 ea
    obtain ⟨⟨pa, pn, pc⟩, ⟨la, ln, lc⟩, r, ⟨ca, cn, cc⟩⟩ := v
    obtain ⟨g1, g2, g3⟩ := int_len hd.p
    simp only at g1 g2 g3 e0 e1 e2 e3
    have k0 : (0 : Int) ≤ k := by omega
    have k1 : (k : Int) < P.fs.length := by omega
    have k2 : k < fc := by omega
    generalize P.fs[k] = f at *
    subst g1
    have HP : Hid (ReadI W0 (.slice pa f.ps.length pc) f.ps) := Lib.hid hd.p
    have HE := Lib.hid (And.intro e0 (And.intro e1 (And.intro e2 e3)))
    have HLT := Lib.hid hlt
    unfold aggP Sl.v
    simp only
    clear h hs hin hfn hd hb e0 e1 e2 e3 hlt
    obtain ⟨D, hD⟩ : ∃ D, D = (if f.ps = [0] ∧ f.r = 0 then (⟨[0], [0], 0⟩ : Deal) else bad 7) := ⟨_, rfl⟩
    rw [← hD]
    have HDD := Lib.hid hD
    clear hD
    go_enter Try.func128, Try.ntmps128
    go_upto_region 1 with fail
    refine wp_named ?_
    intro W hW
    obtain ⟨q0, q1, q2, qb⟩ := boxes3 w #[.bool u, .slice ga gn gc, .int .i64 m, .slice (some ⟨bb, oo, none⟩) P.fs.length fc] #[.int .i64 28, .int .u64 x, .int .i64 k, .int .i64 b] #[.slice none 0 0, .slice none 0 0, .int .i64 0] 31 123 179
    rw [← hW] at q0 q1 q2 qb
    have HBW := Lib.hid qb
    have HK : Hid (∀ w', Below W.heap.size W w' → w'.cell? ⟨w.heap.size, 0, none⟩ = some (.bool u) ∧ w'.cell? ⟨w.heap.size, 1, none⟩ = some (.slice ga gn gc) ∧ w'.cell? ⟨w.heap.size, 2, none⟩ = some (.int .i64 m) ∧ w'.cell? ⟨w.heap.size, 3, none⟩ = some (.slice (some ⟨bb, oo, none⟩) P.fs.length fc) ∧ w'.cell? ⟨w.heap.size + 1, 0, none⟩ = some (.int .i64 28) ∧ w'.cell? ⟨w.heap.size + 1, 1, none⟩ = some (.int .u64 x) ∧ w'.cell? ⟨w.heap.size + 1, 2, none⟩ = some (.int .i64 k) ∧ w'.cell? ⟨w.heap.size + 1, 3, none⟩ = some (.int .i64 b) ∧ w'.cell? ⟨w.heap.size + 2, 0, none⟩ = some (.slice none 0 0) ∧ w'.cell? ⟨w.heap.size + 2, 1, none⟩ = some (.slice none 0 0) ∧ w'.cell? ⟨w.heap.size + 2, 2, none⟩ = some (.int .i64 0) ∧ (∀ i, w'.frozen? ⟨w.heap.size + 2, i, none⟩ = false) ∧ w.heap.size < w'.heap.size ∧ w.heap.size + 1 < w'.heap.size ∧ w.heap.size + 1 + 1 < w'.heap.size) := Lib.hid (fun w' hb => by
      have k0 := blk_below q0 hb
      obtain ⟨x0_0, x0_1, x0_2, x0_3, f0⟩ := blk4 k0
      have z0 := k0.1
      have k1 := blk_below q1 hb
      obtain ⟨x1_0, x1_1, x1_2, x1_3, f1⟩ := blk4 k1
      have z1 := k1.1
      have k2 := blk_below q2 hb
      obtain ⟨x2_0, x2_1, x2_2, f2⟩ := v_blk3 k2
      have z2 := k2.1
      exact ⟨x0_0, x0_1, x0_2, x0_3, x1_0, x1_1, x1_2, x1_3, x2_0, x2_1, x2_2, f2, z0, z1, z2⟩)
    clear hW qb q0 q1 q2
    have HBI : Hid (Below W.heap.size W W) := Below.refl _ _
    obtain ⟨c0_0, c0_1, c0_2, c0_3, c1_0, c1_1, c1_2, c1_3, c2_0, c2_1, c2_2, cf, s0, s1, s2⟩ := HK.out W HBI.out
    have hbw := b_call HB0.out HBW.out
    have d0 := ((bcell hbw).1 _ _ HLT.out).trans HE.out.1
    have d1 := ((bcell hbw).1 _ _ HLT.out).trans HE.out.2.1
    have d2 := ((bcell hbw).1 _ _ HLT.out).trans HE.out.2.2.1
    have d3 := ((bcell hbw).1 _ _ HLT.out).trans HE.out.2.2.2
    go_upto_region 4 with fail
    refine wp_named ?_
    intro W2 hW2
    have BG : Blk W2 W.heap.size [.slice pa f.ps.length pc, .slice la ln lc, .int .i64 f.r, .slice ca cn cc] := by
      rw [hW2]
      first | exact blk_new _ _ _ | exact blk_set (blk_set (blk_set (blk_set (blk_new W _ _) 0 _) 1 _) 2 _) 3 _
    have hb2 : Below W.heap.size W W2 := by
      rw [hW2]
      first | exact b_alloc (Below.refl _ _) _ | exact b_grown (b_alloc (Below.refl _ _) _) (gb_set (gb_set (gb_set (gb_set (gb_refl _ (some W.heap.size)) _ _ _) _ _ _) _ _ _) _ _ _) (Nat.le_refl _)
    have HB2 := Lib.hid hb2
    have HBG := Lib.hid BG
    have HP2 := Lib.hid (readI_below HP.out (b_call hbw hb2))
    have HSZ := Lib.hid (b_call HBW.out hb2).size
    have HS0 := Lib.hid hbw.size
    have HS00 := Lib.hid HB0.out.size
    clear hW2 hb2 d0 d1 d2 d3 hbw
    obtain ⟨y0, y1, y2, y3, yf⟩ := blk4 BG
    have yz := BG.1
    clear BG
    clear c0_0 c0_1 c0_2 c0_3 c1_0 c1_1 c1_2 c1_3 c2_0 c2_1 c2_2 cf s0 s1 s2
    obtain ⟨c0_0, c0_1, c0_2, c0_3, c1_0, c1_1, c1_2, c1_3, c2_0, c2_1, c2_2, cf, s0, s1, s2⟩ := HK.out W2 HB2.out
    obtain ⟨q, hq⟩ : ∃ q, q = decide (f.ps = [0]) := ⟨_, rfl⟩
    have HQ := Lib.hid hq
    have hl : f.ps.length ≤ 10 := hsm
    have HEQ : Hid (Calls Try.prog 90 #[.slice pa f.ps.length pc, .slice (some ⟨W2.heap.size, 0, none⟩) 1 1] (W2.alloc (.cells #[.int .i64 0] 3)) fun e w' => e = .returned (.bool q) ∧ Below (W2.alloc (.cells #[.int .i64 0] 3)).heap.size (W2.alloc (.cells #[.int .i64 0] 3)) w') := by
      have z := eqI_any _ _ f.ps [0] (W2.alloc (.cells #[.int .i64 0] 3)) (readI_below HP2.out (b_alloc (Below.refl _ _) _)) (readI_lit [0] rfl (by simp)) (by omega) (by simp)
      rw [← hq] at z
      exact Lib.hid z
    clear hq hl
    go_wp2_with fail
    refine HEQ.out.mono ?_
    rintro e w5 ⟨rfl, hb5⟩
    have HB5 := Lib.hid (b_call (b_alloc HB2.out _) hb5)
    have HBG5 := Lib.hid (blk_below HBG.out (b_call (b_alloc (Below.refl _ _) _) hb5))
    clear hb5 y0 y1 y2 y3 yf yz
    clear c0_0 c0_1 c0_2 c0_3 c1_0 c1_1 c1_2 c1_3 c2_0 c2_1 c2_2 cf s0 s1 s2
    obtain ⟨c0_0, c0_1, c0_2, c0_3, c1_0, c1_1, c1_2, c1_3, c2_0, c2_1, c2_2, cf, s0, s1, s2⟩ := HK.out w5 HB5.out
    obtain ⟨y0, y1, y2, y3, yf⟩ := blk4 HBG5.out
    have yz := HBG5.out.1
    cases q
    · have E : Hid (D = bad 7) := by show D = bad 7; rw [HDD.out]; exact if_neg (fun z => by have := HQ.out; rw [decide_eq_true z.1] at this; cases this)
      go_wp2_with fail
      refine (vwrong_any _ _).mono ?_
      rintro e w9 ⟨rfl, hb9⟩
      have HB9 := Lib.hid (b_call HB5.out hb9)
      clear c0_0 c0_1 c0_2 c0_3 c1_0 c1_1 c1_2 c1_3 c2_0 c2_1 c2_2 cf s0 s1 s2 y0 y1 y2 y3 yf yz
      clear hb9
      obtain ⟨c0_0, c0_1, c0_2, c0_3, c1_0, c1_1, c1_2, c1_3, c2_0, c2_1, c2_2, cf, s0, s1, s2⟩ := HK.out w9 HB9.out
      unfold aggD
      go_wp2_with fail
      exact bodyPost_ret (v := .agg #[.slice none 0 0, .slice none 0 0, .int .i64 7]) (by simp [results, Try.results128, go_sem, c2_0, c2_1, c2_2]) rfl (by
        show RetF _ _ _ _ _
        rw [E.out]
        exact ⟨_, _, _, _, rfl, readI_nil _, readI_nil _, far_nil _ _ _ _ _, far_nil _ _ _ _ _, b_grown (b_call HBW.out HB9.out) (gb_set3 _ _ _ _ _) (by omega)⟩)
    · have hps : f.ps = [0] := of_decide_eq_true HQ.out.symm
      have HPS := Lib.hid hps
      clear hps
      by_cases hr : f.r = 0
      · have E : Hid (D = ⟨[0], [0], 0⟩) := by show D = _; rw [HDD.out]; exact if_pos ⟨HPS.out, hr⟩
        rw [hr] at y2
        clear hr
        go_wp2_with fail
        refine (vof_any _ _ _ _ _ _ _).mono ?_
        rintro e w8 ⟨rfl, hb8⟩
        have HB8 := Lib.hid (b_call (b_alloc (b_alloc HB5.out _) _) hb8)
        clear c0_0 c0_1 c0_2 c0_3 c1_0 c1_1 c1_2 c1_3 c2_0 c2_1 c2_2 cf s0 s1 s2 y0 y1 y2 y3 yf yz
        have HC := Lib.hid hb8
        clear hb8
        obtain ⟨c0_0, c0_1, c0_2, c0_3, c1_0, c1_1, c1_2, c1_3, c2_0, c2_1, c2_2, cf, s0, s1, s2⟩ := HK.out w8 HB8.out
        have HS := Lib.hid (HK.out _ HB5.out)
        unfold aggD
        go_wp2_with fail
        have hx : w.heap.size + 2 < w5.heap.size := by have := HS.out; omega
        exact bodyPost_ret (v := .agg #[.slice (some ⟨w5.heap.size, 0, none⟩) 1 1, .slice (some ⟨w5.heap.size + 1, 0, none⟩) 1 1, .int .i64 0]) (by simp [results, Try.results128, go_sem, c2_0, c2_1, c2_2]) rfl (by
          show RetF _ _ _ _ _
          rw [E.out]
          exact ⟨_, _, _, _, rfl, lit_far (w2 := w5) [0] rfl (by simp) (b_call (b_alloc (Below.refl _ _) _) HC.out) (gb_set3 _ _ _ _ _) hx, lit_far (w2 := (w5.alloc (.cells #[.int .i64 0] 3))) [0] (by simp) (by simp) HC.out (gb_set3 _ _ _ _ _) (by simp; omega), far_new (by have := (b_call HBW.out HB5.out).size; omega), far_new (by have := (b_call HBW.out HB5.out).size; simp; omega), b_grown (b_call HBW.out HB8.out) (gb_set3 _ _ _ _ _) (by omega)⟩)
      · have E : Hid (D = bad 7) := by show D = bad 7; rw [HDD.out]; exact if_neg (fun z => hr z.2)
        have hr2 : (f.r != 0) = true := by rw [bne_iff_ne]; exact hr
        clear hr
        go_wp2_with fail
        refine (vwrong_any _ _).mono ?_
        rintro e w9 ⟨rfl, hb9⟩
        have HB9 := Lib.hid (b_call HB5.out hb9)
        clear c0_0 c0_1 c0_2 c0_3 c1_0 c1_1 c1_2 c1_3 c2_0 c2_1 c2_2 cf s0 s1 s2 y0 y1 y2 y3 yf yz
        clear hb9
        obtain ⟨c0_0, c0_1, c0_2, c0_3, c1_0, c1_1, c1_2, c1_3, c2_0, c2_1, c2_2, cf, s0, s1, s2⟩ := HK.out w9 HB9.out
        unfold aggD
        go_wp2_with fail
        exact bodyPost_ret (v := .agg #[.slice none 0 0, .slice none 0 0, .int .i64 7]) (by simp [results, Try.results128, go_sem, c2_0, c2_1, c2_2]) rfl (by
          show RetF _ _ _ _ _
          rw [E.out]
          exact ⟨_, _, _, _, rfl, readI_nil _, readI_nil _, far_nil _ _ _ _ _, far_nil _ _ _ _ _, b_grown (b_call HBW.out HB9.out) (gb_set3 _ _ _ _ _) (by omega)⟩)
set_option maxRecDepth 100000 in
set_option maxHeartbeats 2000000 in
theorem vplaces4 (p : PrV) (P : PrM) (v : FnV) (f : FnM) (x a b : Int) (W0 w : World) (h : ReadP W0 p P) (hb : Below W0.heap.size W0 w) (hs : SmallP P) (hf : DeepF W0 v f) (hsf : SmallF f) : Calls Try.prog 126 #[aggP p, aggF v, .agg #[.int .i64 4, .int .u64 x, .int .i64 a, .int .i64 b]] w (RetF W0.heap.size w (ifNamed (inL (f.ps ++ f.ls) a) ⟨[], [atL (f.ps ++ f.ls) a], 0⟩)) := by
  have HF := Lib.hid (deepF_below hf hb)
  have HSF := Lib.hid hsf
  have HGL := Lib.hid (readI_below h.g hb)
  have hgn := (int_len h.g).1
  obtain ⟨u, ⟨ga, gn, gc⟩, m, ⟨fa, fn, fc⟩⟩ := p
  obtain ⟨⟨pa, pn, pc⟩, ⟨la, ln, lc⟩, r, ⟨ca, cn, cc⟩⟩ := v
  simp only at hgn
  subst hgn
  obtain ⟨q, hq⟩ : ∃ q, q = inL (f.ps ++ f.ls) a := ⟨_, rfl⟩
  rw [← hq]
  have HQ := Lib.hid hq
  have HW0 := Lib.hid hb.size
  unfold aggP aggF Sl.v
  simp only
  clear h hb hs hf hsf hq
  go_enter Try.func126, Try.ntmps126
  go_upto_region 1 with fail
  refine wp_named ?_
  intro W hW
  obtain ⟨q0, q1, q2, q3, qb⟩ := boxes4 w #[.bool u, .slice ga P.gl.length gc, .int .i64 m, .slice fa fn fc] #[.slice pa pn pc, .slice la ln lc, .int .i64 r, .slice ca cn cc] #[.int .i64 4, .int .u64 x, .int .i64 a, .int .i64 b] #[.slice none 0 0, .slice none 0 0, .int .i64 0] 31 122 123 179
  rw [← hW] at q0 q1 q2 q3 qb
  have HBW := Lib.hid qb
  have HK : Hid (∀ w', Below W.heap.size W w' → w'.cell? ⟨w.heap.size, 0, none⟩ = some (.bool u) ∧ w'.cell? ⟨w.heap.size, 1, none⟩ = some (.slice ga P.gl.length gc) ∧ w'.cell? ⟨w.heap.size, 2, none⟩ = some (.int .i64 m) ∧ w'.cell? ⟨w.heap.size, 3, none⟩ = some (.slice fa fn fc) ∧ w'.cell? ⟨w.heap.size + 1, 0, none⟩ = some (.slice pa pn pc) ∧ w'.cell? ⟨w.heap.size + 1, 1, none⟩ = some (.slice la ln lc) ∧ w'.cell? ⟨w.heap.size + 1, 2, none⟩ = some (.int .i64 r) ∧ w'.cell? ⟨w.heap.size + 1, 3, none⟩ = some (.slice ca cn cc) ∧ w'.cell? ⟨w.heap.size + 2, 0, none⟩ = some (.int .i64 4) ∧ w'.cell? ⟨w.heap.size + 2, 1, none⟩ = some (.int .u64 x) ∧ w'.cell? ⟨w.heap.size + 2, 2, none⟩ = some (.int .i64 a) ∧ w'.cell? ⟨w.heap.size + 2, 3, none⟩ = some (.int .i64 b) ∧ w'.cell? ⟨w.heap.size + 3, 0, none⟩ = some (.slice none 0 0) ∧ w'.cell? ⟨w.heap.size + 3, 1, none⟩ = some (.slice none 0 0) ∧ w'.cell? ⟨w.heap.size + 3, 2, none⟩ = some (.int .i64 0) ∧ (∀ i, w'.frozen? ⟨w.heap.size + 3, i, none⟩ = false) ∧ w.heap.size < w'.heap.size ∧ w.heap.size + 1 < w'.heap.size ∧ w.heap.size + 1 + 1 < w'.heap.size ∧ w.heap.size + 1 + 1 + 1 < w'.heap.size) := Lib.hid (fun w' hb => by
    have k0 := blk_below q0 hb
    obtain ⟨x0_0, x0_1, x0_2, x0_3, f0⟩ := blk4 k0
    have z0 := k0.1
    have k1 := blk_below q1 hb
    obtain ⟨x1_0, x1_1, x1_2, x1_3, f1⟩ := blk4 k1
    have z1 := k1.1
    have k2 := blk_below q2 hb
    obtain ⟨x2_0, x2_1, x2_2, x2_3, f2⟩ := blk4 k2
    have z2 := k2.1
    have k3 := blk_below q3 hb
    obtain ⟨x3_0, x3_1, x3_2, f3⟩ := v_blk3 k3
    have z3 := k3.1
    exact ⟨x0_0, x0_1, x0_2, x0_3, x1_0, x1_1, x1_2, x1_3, x2_0, x2_1, x2_2, x2_3, x3_0, x3_1, x3_2, f3, z0, z1, z2, z3⟩)
  clear hW qb q0 q1 q2 q3
  have HBI : Hid (Below W.heap.size W W) := Below.refl _ _
  obtain ⟨c0_0, c0_1, c0_2, c0_3, c1_0, c1_1, c1_2, c1_3, c2_0, c2_1, c2_2, c2_3, c3_0, c3_1, c3_2, cf, s0, s1, s2, s3⟩ := HK.out W HBI.out
  go_wp2_with fail
  refine (kind25_any ⟨⟨pa, pn, pc⟩, ⟨la, ln, lc⟩, r, ⟨ca, cn, cc⟩⟩ f a _ (deepF_below HF.out HBW.out) HSF.out).mono ?_
  rintro e w2 ⟨rfl, hb2⟩
  have HB2 := Lib.hid hb2
  clear hb2
  clear c0_0 c0_1 c0_2 c0_3 c1_0 c1_1 c1_2 c1_3 c2_0 c2_1 c2_2 c2_3 c3_0 c3_1 c3_2 cf s0 s1 s2 s3
  obtain ⟨c0_0, c0_1, c0_2, c0_3, c1_0, c1_1, c1_2, c1_3, c2_0, c2_1, c2_2, c2_3, c3_0, c3_1, c3_2, cf, s0, s1, s2, s3⟩ := HK.out w2 HB2.out
  rw [has_in, ← HQ.out]
  obtain ⟨y, hy⟩ : ∃ y, y = kindOf25 f a := ⟨_, rfl⟩
  rw [← hy]
  have HY : Hid (q = true → atL (f.ps ++ f.ls) a = y) := Lib.hid (fun e => by rw [hy]; exact (kind_in (by rw [← HQ.out]; exact e)).symm)
  clear hy
  cases q
  · have D : Hid (ifNamed false ⟨[], [atL (f.ps ++ f.ls) a], 0⟩ = bad 5) := Lib.hid rfl
    go_wp2_with fail
    refine (vof_any _ _ _ _ _ _ _).mono ?_
    rintro e w8 ⟨rfl, hb8⟩
    have HB8 := Lib.hid (b_call (b_alloc HB2.out _) hb8)
    clear c0_0 c0_1 c0_2 c0_3 c1_0 c1_1 c1_2 c1_3 c2_0 c2_1 c2_2 c2_3 c3_0 c3_1 c3_2 cf s0 s1 s2 s3
    clear hb8
    go_wp2_with fail
    refine (vnamed_f _ _ _ _ _ _ _ _).mono ?_
    rintro e w9 ⟨rfl, hb9⟩
    have HB9 := Lib.hid (b_call HB8.out hb9)
    clear hb9
    obtain ⟨c0_0, c0_1, c0_2, c0_3, c1_0, c1_1, c1_2, c1_3, c2_0, c2_1, c2_2, c2_3, c3_0, c3_1, c3_2, cf, s0, s1, s2, s3⟩ := HK.out w9 HB9.out
    unfold aggD
    go_wp2_with fail
    exact bodyPost_ret (v := .agg #[.slice none 0 0, .slice none 0 0, .int .i64 5]) (by simp [results, Try.results126, go_sem, c3_0, c3_1, c3_2]) rfl (by
      show RetF _ _ _ _ _
      exact ⟨_, _, _, _, rfl, readI_nil _, readI_nil _, far_nil _ _ _ _ _, far_nil _ _ _ _ _, b_grown (b_call HBW.out HB9.out) (gb_set3 _ _ _ _ _) (by omega)⟩)
  · have D : Hid (ifNamed true ⟨[], [atL (f.ps ++ f.ls) a], 0⟩ = ⟨[], [y], 0⟩) := Lib.hid (by rw [HY.out rfl]; rfl)
    go_wp2_with fail
    refine (vof_any _ _ _ _ _ _ _).mono ?_
    rintro e w8 ⟨rfl, hb8⟩
    have HB8 := Lib.hid (b_call (b_alloc HB2.out _) hb8)
    clear c0_0 c0_1 c0_2 c0_3 c1_0 c1_1 c1_2 c1_3 c2_0 c2_1 c2_2 c2_3 c3_0 c3_1 c3_2 cf s0 s1 s2 s3
    go_wp2_with fail
    refine (vnamed_t _ _ _ _ _ _ _ _).mono ?_
    rintro e w9 ⟨rfl, hb9⟩
    have HB9 := Lib.hid (b_call HB8.out hb9)
    have HC : Hid (Below (w2.alloc (.cells #[.int .i64 y] 3)).heap.size (w2.alloc (.cells #[.int .i64 y] 3)) w9) := Lib.hid (b_call hb8 hb9)
    clear hb8 hb9
    obtain ⟨c0_0, c0_1, c0_2, c0_3, c1_0, c1_1, c1_2, c1_3, c2_0, c2_1, c2_2, c2_3, c3_0, c3_1, c3_2, cf, s0, s1, s2, s3⟩ := HK.out w9 HB9.out
    have HS := Lib.hid (HK.out _ HB2.out)
    unfold aggD
    go_wp2_with fail
    have hx : w.heap.size + 3 < w2.heap.size := by have := HS.out; omega
    exact bodyPost_ret (v := .agg #[.slice none 0 0, .slice (some ⟨w2.heap.size, 0, none⟩) 1 1, .int .i64 0]) (by simp [results, Try.results126, go_sem, c3_0, c3_1, c3_2]) rfl (by
      show RetF _ _ _ _ _
      rw [D.out]
      exact ⟨_, _, _, _, rfl, readI_nil _, lit_far (w2 := w2) [y] rfl (by simp) HC.out (gb_set3 _ _ _ _ _) hx, far_nil _ _ _ _ _, far_new (by have := (b_call HBW.out HB2.out).size; omega), b_grown (b_call HBW.out HB9.out) (gb_set3 _ _ _ _ _) (by omega)⟩)
set_option maxRecDepth 100000 in
set_option maxHeartbeats 2000000 in
theorem vplaces5 (p : PrV) (P : PrM) (v : FnV) (f : FnM) (x a b : Int) (W0 w : World) (h : ReadP W0 p P) (hb : Below W0.heap.size W0 w) (hs : SmallP P) (hf : DeepF W0 v f) (hsf : SmallF f) : Calls Try.prog 126 #[aggP p, aggF v, .agg #[.int .i64 5, .int .u64 x, .int .i64 a, .int .i64 b]] w (RetF W0.heap.size w (ifNamed (inL (f.ps ++ f.ls) a) ⟨[atL (f.ps ++ f.ls) a], [], 0⟩)) := by
  have HF := Lib.hid (deepF_below hf hb)
  have HSF := Lib.hid hsf
  have HGL := Lib.hid (readI_below h.g hb)
  have hgn := (int_len h.g).1
  obtain ⟨u, ⟨ga, gn, gc⟩, m, ⟨fa, fn, fc⟩⟩ := p
  obtain ⟨⟨pa, pn, pc⟩, ⟨la, ln, lc⟩, r, ⟨ca, cn, cc⟩⟩ := v
  simp only at hgn
  subst hgn
  obtain ⟨q, hq⟩ : ∃ q, q = inL (f.ps ++ f.ls) a := ⟨_, rfl⟩
  rw [← hq]
  have HQ := Lib.hid hq
  have HW0 := Lib.hid hb.size
  unfold aggP aggF Sl.v
  simp only
  clear h hb hs hf hsf hq
  go_enter Try.func126, Try.ntmps126
  go_upto_region 1 with fail
  refine wp_named ?_
  intro W hW
  obtain ⟨q0, q1, q2, q3, qb⟩ := boxes4 w #[.bool u, .slice ga P.gl.length gc, .int .i64 m, .slice fa fn fc] #[.slice pa pn pc, .slice la ln lc, .int .i64 r, .slice ca cn cc] #[.int .i64 5, .int .u64 x, .int .i64 a, .int .i64 b] #[.slice none 0 0, .slice none 0 0, .int .i64 0] 31 122 123 179
  rw [← hW] at q0 q1 q2 q3 qb
  have HBW := Lib.hid qb
  have HK : Hid (∀ w', Below W.heap.size W w' → w'.cell? ⟨w.heap.size, 0, none⟩ = some (.bool u) ∧ w'.cell? ⟨w.heap.size, 1, none⟩ = some (.slice ga P.gl.length gc) ∧ w'.cell? ⟨w.heap.size, 2, none⟩ = some (.int .i64 m) ∧ w'.cell? ⟨w.heap.size, 3, none⟩ = some (.slice fa fn fc) ∧ w'.cell? ⟨w.heap.size + 1, 0, none⟩ = some (.slice pa pn pc) ∧ w'.cell? ⟨w.heap.size + 1, 1, none⟩ = some (.slice la ln lc) ∧ w'.cell? ⟨w.heap.size + 1, 2, none⟩ = some (.int .i64 r) ∧ w'.cell? ⟨w.heap.size + 1, 3, none⟩ = some (.slice ca cn cc) ∧ w'.cell? ⟨w.heap.size + 2, 0, none⟩ = some (.int .i64 5) ∧ w'.cell? ⟨w.heap.size + 2, 1, none⟩ = some (.int .u64 x) ∧ w'.cell? ⟨w.heap.size + 2, 2, none⟩ = some (.int .i64 a) ∧ w'.cell? ⟨w.heap.size + 2, 3, none⟩ = some (.int .i64 b) ∧ w'.cell? ⟨w.heap.size + 3, 0, none⟩ = some (.slice none 0 0) ∧ w'.cell? ⟨w.heap.size + 3, 1, none⟩ = some (.slice none 0 0) ∧ w'.cell? ⟨w.heap.size + 3, 2, none⟩ = some (.int .i64 0) ∧ (∀ i, w'.frozen? ⟨w.heap.size + 3, i, none⟩ = false) ∧ w.heap.size < w'.heap.size ∧ w.heap.size + 1 < w'.heap.size ∧ w.heap.size + 1 + 1 < w'.heap.size ∧ w.heap.size + 1 + 1 + 1 < w'.heap.size) := Lib.hid (fun w' hb => by
    have k0 := blk_below q0 hb
    obtain ⟨x0_0, x0_1, x0_2, x0_3, f0⟩ := blk4 k0
    have z0 := k0.1
    have k1 := blk_below q1 hb
    obtain ⟨x1_0, x1_1, x1_2, x1_3, f1⟩ := blk4 k1
    have z1 := k1.1
    have k2 := blk_below q2 hb
    obtain ⟨x2_0, x2_1, x2_2, x2_3, f2⟩ := blk4 k2
    have z2 := k2.1
    have k3 := blk_below q3 hb
    obtain ⟨x3_0, x3_1, x3_2, f3⟩ := v_blk3 k3
    have z3 := k3.1
    exact ⟨x0_0, x0_1, x0_2, x0_3, x1_0, x1_1, x1_2, x1_3, x2_0, x2_1, x2_2, x2_3, x3_0, x3_1, x3_2, f3, z0, z1, z2, z3⟩)
  clear hW qb q0 q1 q2 q3
  have HBI : Hid (Below W.heap.size W W) := Below.refl _ _
  obtain ⟨c0_0, c0_1, c0_2, c0_3, c1_0, c1_1, c1_2, c1_3, c2_0, c2_1, c2_2, c2_3, c3_0, c3_1, c3_2, cf, s0, s1, s2, s3⟩ := HK.out W HBI.out
  go_wp2_with fail
  refine (kind25_any ⟨⟨pa, pn, pc⟩, ⟨la, ln, lc⟩, r, ⟨ca, cn, cc⟩⟩ f a _ (deepF_below HF.out HBW.out) HSF.out).mono ?_
  rintro e w2 ⟨rfl, hb2⟩
  have HB2 := Lib.hid hb2
  clear hb2
  clear c0_0 c0_1 c0_2 c0_3 c1_0 c1_1 c1_2 c1_3 c2_0 c2_1 c2_2 c2_3 c3_0 c3_1 c3_2 cf s0 s1 s2 s3
  obtain ⟨c0_0, c0_1, c0_2, c0_3, c1_0, c1_1, c1_2, c1_3, c2_0, c2_1, c2_2, c2_3, c3_0, c3_1, c3_2, cf, s0, s1, s2, s3⟩ := HK.out w2 HB2.out
  rw [has_in, ← HQ.out]
  obtain ⟨y, hy⟩ : ∃ y, y = kindOf25 f a := ⟨_, rfl⟩
  rw [← hy]
  have HY : Hid (q = true → atL (f.ps ++ f.ls) a = y) := Lib.hid (fun e => by rw [hy]; exact (kind_in (by rw [← HQ.out]; exact e)).symm)
  clear hy
  cases q
  · have D : Hid (ifNamed false ⟨[atL (f.ps ++ f.ls) a], [], 0⟩ = bad 5) := Lib.hid rfl
    go_wp2_with fail
    refine (vof_any _ _ _ _ _ _ _).mono ?_
    rintro e w8 ⟨rfl, hb8⟩
    have HB8 := Lib.hid (b_call (b_alloc HB2.out _) hb8)
    clear c0_0 c0_1 c0_2 c0_3 c1_0 c1_1 c1_2 c1_3 c2_0 c2_1 c2_2 c2_3 c3_0 c3_1 c3_2 cf s0 s1 s2 s3
    clear hb8
    go_wp2_with fail
    refine (vnamed_f _ _ _ _ _ _ _ _).mono ?_
    rintro e w9 ⟨rfl, hb9⟩
    have HB9 := Lib.hid (b_call HB8.out hb9)
    clear hb9
    obtain ⟨c0_0, c0_1, c0_2, c0_3, c1_0, c1_1, c1_2, c1_3, c2_0, c2_1, c2_2, c2_3, c3_0, c3_1, c3_2, cf, s0, s1, s2, s3⟩ := HK.out w9 HB9.out
    unfold aggD
    go_wp2_with fail
    exact bodyPost_ret (v := .agg #[.slice none 0 0, .slice none 0 0, .int .i64 5]) (by simp [results, Try.results126, go_sem, c3_0, c3_1, c3_2]) rfl (by
      show RetF _ _ _ _ _
      exact ⟨_, _, _, _, rfl, readI_nil _, readI_nil _, far_nil _ _ _ _ _, far_nil _ _ _ _ _, b_grown (b_call HBW.out HB9.out) (gb_set3 _ _ _ _ _) (by omega)⟩)
  · have D : Hid (ifNamed true ⟨[atL (f.ps ++ f.ls) a], [], 0⟩ = ⟨[y], [], 0⟩) := Lib.hid (by rw [HY.out rfl]; rfl)
    go_wp2_with fail
    refine (vof_any _ _ _ _ _ _ _).mono ?_
    rintro e w8 ⟨rfl, hb8⟩
    have HB8 := Lib.hid (b_call (b_alloc HB2.out _) hb8)
    clear c0_0 c0_1 c0_2 c0_3 c1_0 c1_1 c1_2 c1_3 c2_0 c2_1 c2_2 c2_3 c3_0 c3_1 c3_2 cf s0 s1 s2 s3
    go_wp2_with fail
    refine (vnamed_t _ _ _ _ _ _ _ _).mono ?_
    rintro e w9 ⟨rfl, hb9⟩
    have HB9 := Lib.hid (b_call HB8.out hb9)
    have HC : Hid (Below (w2.alloc (.cells #[.int .i64 y] 3)).heap.size (w2.alloc (.cells #[.int .i64 y] 3)) w9) := Lib.hid (b_call hb8 hb9)
    clear hb8 hb9
    obtain ⟨c0_0, c0_1, c0_2, c0_3, c1_0, c1_1, c1_2, c1_3, c2_0, c2_1, c2_2, c2_3, c3_0, c3_1, c3_2, cf, s0, s1, s2, s3⟩ := HK.out w9 HB9.out
    have HS := Lib.hid (HK.out _ HB2.out)
    unfold aggD
    go_wp2_with fail
    have hx : w.heap.size + 3 < w2.heap.size := by have := HS.out; omega
    exact bodyPost_ret (v := .agg #[.slice (some ⟨w2.heap.size, 0, none⟩) 1 1, .slice none 0 0, .int .i64 0]) (by simp [results, Try.results126, go_sem, c3_0, c3_1, c3_2]) rfl (by
      show RetF _ _ _ _ _
      rw [D.out]
      exact ⟨_, _, _, _, rfl, lit_far (w2 := w2) [y] rfl (by simp) HC.out (gb_set3 _ _ _ _ _) hx, readI_nil _, far_new (by have := (b_call HBW.out HB2.out).size; omega), far_nil _ _ _ _ _, b_grown (b_call HBW.out HB9.out) (gb_set3 _ _ _ _ _) (by omega)⟩)
set_option maxRecDepth 100000 in
set_option maxHeartbeats 2000000 in
theorem vplaces6 (p : PrV) (P : PrM) (v : FnV) (f : FnM) (x a b : Int) (W0 w : World) (h : ReadP W0 p P) (hb : Below W0.heap.size W0 w) (hs : SmallP P) (hf : DeepF W0 v f) (hsf : SmallF f) : Calls Try.prog 126 #[aggP p, aggF v, .agg #[.int .i64 6, .int .u64 x, .int .i64 a, .int .i64 b]] w (RetF W0.heap.size w (ifNamed (inL P.gl a) ⟨[], [atL P.gl a], 0⟩)) := by
  have HF := Lib.hid (deepF_below hf hb)
  have HSF := Lib.hid hsf
  have HGL := Lib.hid (readI_below h.g hb)
  have hgn := (int_len h.g).1
  obtain ⟨u, ⟨ga, gn, gc⟩, m, ⟨fa, fn, fc⟩⟩ := p
  obtain ⟨⟨pa, pn, pc⟩, ⟨la, ln, lc⟩, r, ⟨ca, cn, cc⟩⟩ := v
  simp only at hgn
  subst hgn
  obtain ⟨q, hq⟩ : ∃ q, q = inL P.gl a := ⟨_, rfl⟩
  rw [← hq]
  have HQ := Lib.hid hq
  have HW0 := Lib.hid hb.size
  unfold aggP aggF Sl.v
  simp only
  clear h hb hs hf hsf hq
  go_enter Try.func126, Try.ntmps126
  go_upto_region 1 with fail
  refine wp_named ?_
  intro W hW
  obtain ⟨q0, q1, q2, q3, qb⟩ := boxes4 w #[.bool u, .slice ga P.gl.length gc, .int .i64 m, .slice fa fn fc] #[.slice pa pn pc, .slice la ln lc, .int .i64 r, .slice ca cn cc] #[.int .i64 6, .int .u64 x, .int .i64 a, .int .i64 b] #[.slice none 0 0, .slice none 0 0, .int .i64 0] 31 122 123 179
  rw [← hW] at q0 q1 q2 q3 qb
  have HBW := Lib.hid qb
  have HK : Hid (∀ w', Below W.heap.size W w' → w'.cell? ⟨w.heap.size, 0, none⟩ = some (.bool u) ∧ w'.cell? ⟨w.heap.size, 1, none⟩ = some (.slice ga P.gl.length gc) ∧ w'.cell? ⟨w.heap.size, 2, none⟩ = some (.int .i64 m) ∧ w'.cell? ⟨w.heap.size, 3, none⟩ = some (.slice fa fn fc) ∧ w'.cell? ⟨w.heap.size + 1, 0, none⟩ = some (.slice pa pn pc) ∧ w'.cell? ⟨w.heap.size + 1, 1, none⟩ = some (.slice la ln lc) ∧ w'.cell? ⟨w.heap.size + 1, 2, none⟩ = some (.int .i64 r) ∧ w'.cell? ⟨w.heap.size + 1, 3, none⟩ = some (.slice ca cn cc) ∧ w'.cell? ⟨w.heap.size + 2, 0, none⟩ = some (.int .i64 6) ∧ w'.cell? ⟨w.heap.size + 2, 1, none⟩ = some (.int .u64 x) ∧ w'.cell? ⟨w.heap.size + 2, 2, none⟩ = some (.int .i64 a) ∧ w'.cell? ⟨w.heap.size + 2, 3, none⟩ = some (.int .i64 b) ∧ w'.cell? ⟨w.heap.size + 3, 0, none⟩ = some (.slice none 0 0) ∧ w'.cell? ⟨w.heap.size + 3, 1, none⟩ = some (.slice none 0 0) ∧ w'.cell? ⟨w.heap.size + 3, 2, none⟩ = some (.int .i64 0) ∧ (∀ i, w'.frozen? ⟨w.heap.size + 3, i, none⟩ = false) ∧ w.heap.size < w'.heap.size ∧ w.heap.size + 1 < w'.heap.size ∧ w.heap.size + 1 + 1 < w'.heap.size ∧ w.heap.size + 1 + 1 + 1 < w'.heap.size) := Lib.hid (fun w' hb => by
    have k0 := blk_below q0 hb
    obtain ⟨x0_0, x0_1, x0_2, x0_3, f0⟩ := blk4 k0
    have z0 := k0.1
    have k1 := blk_below q1 hb
    obtain ⟨x1_0, x1_1, x1_2, x1_3, f1⟩ := blk4 k1
    have z1 := k1.1
    have k2 := blk_below q2 hb
    obtain ⟨x2_0, x2_1, x2_2, x2_3, f2⟩ := blk4 k2
    have z2 := k2.1
    have k3 := blk_below q3 hb
    obtain ⟨x3_0, x3_1, x3_2, f3⟩ := v_blk3 k3
    have z3 := k3.1
    exact ⟨x0_0, x0_1, x0_2, x0_3, x1_0, x1_1, x1_2, x1_3, x2_0, x2_1, x2_2, x2_3, x3_0, x3_1, x3_2, f3, z0, z1, z2, z3⟩)
  clear hW qb q0 q1 q2 q3
  have HBI : Hid (Below W.heap.size W W) := Below.refl _ _
  obtain ⟨c0_0, c0_1, c0_2, c0_3, c1_0, c1_1, c1_2, c1_3, c2_0, c2_1, c2_2, c2_3, c3_0, c3_1, c3_2, cf, s0, s1, s2, s3⟩ := HK.out W HBI.out
  go_wp2_with fail
  refine (kind25_any ⟨⟨pa, pn, pc⟩, ⟨la, ln, lc⟩, r, ⟨ca, cn, cc⟩⟩ f a _ (deepF_below HF.out HBW.out) HSF.out).mono ?_
  rintro e w2 ⟨rfl, hb2⟩
  have HB2 := Lib.hid hb2
  clear hb2
  clear c0_0 c0_1 c0_2 c0_3 c1_0 c1_1 c1_2 c1_3 c2_0 c2_1 c2_2 c2_3 c3_0 c3_1 c3_2 cf s0 s1 s2 s3
  obtain ⟨c0_0, c0_1, c0_2, c0_3, c1_0, c1_1, c1_2, c1_3, c2_0, c2_1, c2_2, c2_3, c3_0, c3_1, c3_2, cf, s0, s1, s2, s3⟩ := HK.out w2 HB2.out
  generalize kindOf25 f a = y1
  generalize hasOf25 f a = y2
  obtain ⟨y, hy⟩ : ∃ y, y = (if inL P.gl a = true then atL P.gl a else 0) := ⟨_, rfl⟩
  have HAT := Lib.hid (vat_any P.gl a ga gc w2 (readI_below HGL.out (b_call HBW.out HB2.out)))
  rw [← hy, ← HQ.out] at HAT
  have HY : Hid (q = true → atL P.gl a = y) := Lib.hid (fun e => by rw [hy, ← HQ.out, e]; rfl)
  clear hy
  go_wp2_with fail
  refine HAT.out.mono ?_
  rintro e w3 ⟨rfl, hw3⟩
  have HB3 : Hid (Below W.heap.size W w3) := by subst hw3; exact HB2
  clear hw3
  clear c0_0 c0_1 c0_2 c0_3 c1_0 c1_1 c1_2 c1_3 c2_0 c2_1 c2_2 c2_3 c3_0 c3_1 c3_2 cf s0 s1 s2 s3
  obtain ⟨c0_0, c0_1, c0_2, c0_3, c1_0, c1_1, c1_2, c1_3, c2_0, c2_1, c2_2, c2_3, c3_0, c3_1, c3_2, cf, s0, s1, s2, s3⟩ := HK.out w3 HB3.out
  cases q
  · have D : Hid (ifNamed false ⟨[], [atL P.gl a], 0⟩ = bad 5) := Lib.hid rfl
    go_wp2_with fail
    refine (vof_any _ _ _ _ _ _ _).mono ?_
    rintro e w8 ⟨rfl, hb8⟩
    have HB8 := Lib.hid (b_call (b_alloc HB3.out _) hb8)
    clear c0_0 c0_1 c0_2 c0_3 c1_0 c1_1 c1_2 c1_3 c2_0 c2_1 c2_2 c2_3 c3_0 c3_1 c3_2 cf s0 s1 s2 s3
    clear hb8
    go_wp2_with fail
    refine (vnamed_f _ _ _ _ _ _ _ _).mono ?_
    rintro e w9 ⟨rfl, hb9⟩
    have HB9 := Lib.hid (b_call HB8.out hb9)
    clear hb9
    obtain ⟨c0_0, c0_1, c0_2, c0_3, c1_0, c1_1, c1_2, c1_3, c2_0, c2_1, c2_2, c2_3, c3_0, c3_1, c3_2, cf, s0, s1, s2, s3⟩ := HK.out w9 HB9.out
    unfold aggD
    go_wp2_with fail
    exact bodyPost_ret (v := .agg #[.slice none 0 0, .slice none 0 0, .int .i64 5]) (by simp [results, Try.results126, go_sem, c3_0, c3_1, c3_2]) rfl (by
      show RetF _ _ _ _ _
      exact ⟨_, _, _, _, rfl, readI_nil _, readI_nil _, far_nil _ _ _ _ _, far_nil _ _ _ _ _, b_grown (b_call HBW.out HB9.out) (gb_set3 _ _ _ _ _) (by omega)⟩)
  · have D : Hid (ifNamed true ⟨[], [atL P.gl a], 0⟩ = ⟨[], [y], 0⟩) := Lib.hid (by rw [HY.out rfl]; rfl)
    go_wp2_with fail
    refine (vof_any _ _ _ _ _ _ _).mono ?_
    rintro e w8 ⟨rfl, hb8⟩
    have HB8 := Lib.hid (b_call (b_alloc HB3.out _) hb8)
    clear c0_0 c0_1 c0_2 c0_3 c1_0 c1_1 c1_2 c1_3 c2_0 c2_1 c2_2 c2_3 c3_0 c3_1 c3_2 cf s0 s1 s2 s3
    go_wp2_with fail
    refine (vnamed_t _ _ _ _ _ _ _ _).mono ?_
    rintro e w9 ⟨rfl, hb9⟩
    have HB9 := Lib.hid (b_call HB8.out hb9)
    have HC : Hid (Below (w3.alloc (.cells #[.int .i64 y] 3)).heap.size (w3.alloc (.cells #[.int .i64 y] 3)) w9) := Lib.hid (b_call hb8 hb9)
    clear hb8 hb9
    obtain ⟨c0_0, c0_1, c0_2, c0_3, c1_0, c1_1, c1_2, c1_3, c2_0, c2_1, c2_2, c2_3, c3_0, c3_1, c3_2, cf, s0, s1, s2, s3⟩ := HK.out w9 HB9.out
    have HS := Lib.hid (HK.out _ HB3.out)
    unfold aggD
    go_wp2_with fail
    have hx : w.heap.size + 3 < w3.heap.size := by have := HS.out; omega
    exact bodyPost_ret (v := .agg #[.slice none 0 0, .slice (some ⟨w3.heap.size, 0, none⟩) 1 1, .int .i64 0]) (by simp [results, Try.results126, go_sem, c3_0, c3_1, c3_2]) rfl (by
      show RetF _ _ _ _ _
      rw [D.out]
      exact ⟨_, _, _, _, rfl, readI_nil _, lit_far (w2 := w3) [y] rfl (by simp) HC.out (gb_set3 _ _ _ _ _) hx, far_nil _ _ _ _ _, far_new (by have := (b_call HBW.out HB3.out).size; omega), b_grown (b_call HBW.out HB9.out) (gb_set3 _ _ _ _ _) (by omega)⟩)
set_option maxRecDepth 100000 in
set_option maxHeartbeats 2000000 in
theorem vplaces7 (p : PrV) (P : PrM) (v : FnV) (f : FnM) (x a b : Int) (W0 w : World) (h : ReadP W0 p P) (hb : Below W0.heap.size W0 w) (hs : SmallP P) (hf : DeepF W0 v f) (hsf : SmallF f) : Calls Try.prog 126 #[aggP p, aggF v, .agg #[.int .i64 7, .int .u64 x, .int .i64 a, .int .i64 b]] w (RetF W0.heap.size w (ifNamed (inL P.gl a) ⟨[atL P.gl a], [], 0⟩)) := by
  have HF := Lib.hid (deepF_below hf hb)
  have HSF := Lib.hid hsf
  have HGL := Lib.hid (readI_below h.g hb)
  have hgn := (int_len h.g).1
  obtain ⟨u, ⟨ga, gn, gc⟩, m, ⟨fa, fn, fc⟩⟩ := p
  obtain ⟨⟨pa, pn, pc⟩, ⟨la, ln, lc⟩, r, ⟨ca, cn, cc⟩⟩ := v
  simp only at hgn
  subst hgn
  obtain ⟨q, hq⟩ : ∃ q, q = inL P.gl a := ⟨_, rfl⟩
  rw [← hq]
  have HQ := Lib.hid hq
  have HW0 := Lib.hid hb.size
  unfold aggP aggF Sl.v
  simp only
  clear h hb hs hf hsf hq
  go_enter Try.func126, Try.ntmps126
  go_upto_region 1 with fail
  refine wp_named ?_
  intro W hW
  obtain ⟨q0, q1, q2, q3, qb⟩ := boxes4 w #[.bool u, .slice ga P.gl.length gc, .int .i64 m, .slice fa fn fc] #[.slice pa pn pc, .slice la ln lc, .int .i64 r, .slice ca cn cc] #[.int .i64 7, .int .u64 x, .int .i64 a, .int .i64 b] #[.slice none 0 0, .slice none 0 0, .int .i64 0] 31 122 123 179
  rw [← hW] at q0 q1 q2 q3 qb
  have HBW := Lib.hid qb
  have HK : Hid (∀ w', Below W.heap.size W w' → w'.cell? ⟨w.heap.size, 0, none⟩ = some (.bool u) ∧ w'.cell? ⟨w.heap.size, 1, none⟩ = some (.slice ga P.gl.length gc) ∧ w'.cell? ⟨w.heap.size, 2, none⟩ = some (.int .i64 m) ∧ w'.cell? ⟨w.heap.size, 3, none⟩ = some (.slice fa fn fc) ∧ w'.cell? ⟨w.heap.size + 1, 0, none⟩ = some (.slice pa pn pc) ∧ w'.cell? ⟨w.heap.size + 1, 1, none⟩ = some (.slice la ln lc) ∧ w'.cell? ⟨w.heap.size + 1, 2, none⟩ = some (.int .i64 r) ∧ w'.cell? ⟨w.heap.size + 1, 3, none⟩ = some (.slice ca cn cc) ∧ w'.cell? ⟨w.heap.size + 2, 0, none⟩ = some (.int .i64 7) ∧ w'.cell? ⟨w.heap.size + 2, 1, none⟩ = some (.int .u64 x) ∧ w'.cell? ⟨w.heap.size + 2, 2, none⟩ = some (.int .i64 a) ∧ w'.cell? ⟨w.heap.size + 2, 3, none⟩ = some (.int .i64 b) ∧ w'.cell? ⟨w.heap.size + 3, 0, none⟩ = some (.slice none 0 0) ∧ w'.cell? ⟨w.heap.size + 3, 1, none⟩ = some (.slice none 0 0) ∧ w'.cell? ⟨w.heap.size + 3, 2, none⟩ = some (.int .i64 0) ∧ (∀ i, w'.frozen? ⟨w.heap.size + 3, i, none⟩ = false) ∧ w.heap.size < w'.heap.size ∧ w.heap.size + 1 < w'.heap.size ∧ w.heap.size + 1 + 1 < w'.heap.size ∧ w.heap.size + 1 + 1 + 1 < w'.heap.size) := Lib.hid (fun w' hb => by
    have k0 := blk_below q0 hb
    obtain ⟨x0_0, x0_1, x0_2, x0_3, f0⟩ := blk4 k0
    have z0 := k0.1
    have k1 := blk_below q1 hb
    obtain ⟨x1_0, x1_1, x1_2, x1_3, f1⟩ := blk4 k1
    have z1 := k1.1
    have k2 := blk_below q2 hb
    obtain ⟨x2_0, x2_1, x2_2, x2_3, f2⟩ := blk4 k2
    have z2 := k2.1
    have k3 := blk_below q3 hb
    obtain ⟨x3_0, x3_1, x3_2, f3⟩ := v_blk3 k3
    have z3 := k3.1
    exact ⟨x0_0, x0_1, x0_2, x0_3, x1_0, x1_1, x1_2, x1_3, x2_0, x2_1, x2_2, x2_3, x3_0, x3_1, x3_2, f3, z0, z1, z2, z3⟩)
  clear hW qb q0 q1 q2 q3
  have HBI : Hid (Below W.heap.size W W) := Below.refl _ _
  obtain ⟨c0_0, c0_1, c0_2, c0_3, c1_0, c1_1, c1_2, c1_3, c2_0, c2_1, c2_2, c2_3, c3_0, c3_1, c3_2, cf, s0, s1, s2, s3⟩ := HK.out W HBI.out
  go_wp2_with fail
  refine (kind25_any ⟨⟨pa, pn, pc⟩, ⟨la, ln, lc⟩, r, ⟨ca, cn, cc⟩⟩ f a _ (deepF_below HF.out HBW.out) HSF.out).mono ?_
  rintro e w2 ⟨rfl, hb2⟩
  have HB2 := Lib.hid hb2
  clear hb2
  clear c0_0 c0_1 c0_2 c0_3 c1_0 c1_1 c1_2 c1_3 c2_0 c2_1 c2_2 c2_3 c3_0 c3_1 c3_2 cf s0 s1 s2 s3
  obtain ⟨c0_0, c0_1, c0_2, c0_3, c1_0, c1_1, c1_2, c1_3, c2_0, c2_1, c2_2, c2_3, c3_0, c3_1, c3_2, cf, s0, s1, s2, s3⟩ := HK.out w2 HB2.out
  generalize kindOf25 f a = y1
  generalize hasOf25 f a = y2
  obtain ⟨y, hy⟩ : ∃ y, y = (if inL P.gl a = true then atL P.gl a else 0) := ⟨_, rfl⟩
  have HAT := Lib.hid (vat_any P.gl a ga gc w2 (readI_below HGL.out (b_call HBW.out HB2.out)))
  rw [← hy, ← HQ.out] at HAT
  have HY : Hid (q = true → atL P.gl a = y) := Lib.hid (fun e => by rw [hy, ← HQ.out, e]; rfl)
  clear hy
  go_wp2_with fail
  refine HAT.out.mono ?_
  rintro e w3 ⟨rfl, hw3⟩
  have HB3 : Hid (Below W.heap.size W w3) := by subst hw3; exact HB2
  clear hw3
  clear c0_0 c0_1 c0_2 c0_3 c1_0 c1_1 c1_2 c1_3 c2_0 c2_1 c2_2 c2_3 c3_0 c3_1 c3_2 cf s0 s1 s2 s3
  obtain ⟨c0_0, c0_1, c0_2, c0_3, c1_0, c1_1, c1_2, c1_3, c2_0, c2_1, c2_2, c2_3, c3_0, c3_1, c3_2, cf, s0, s1, s2, s3⟩ := HK.out w3 HB3.out
  cases q
  · have D : Hid (ifNamed false ⟨[atL P.gl a], [], 0⟩ = bad 5) := Lib.hid rfl
    go_wp2_with fail
    refine (vof_any _ _ _ _ _ _ _).mono ?_
    rintro e w8 ⟨rfl, hb8⟩
    have HB8 := Lib.hid (b_call (b_alloc HB3.out _) hb8)
    clear c0_0 c0_1 c0_2 c0_3 c1_0 c1_1 c1_2 c1_3 c2_0 c2_1 c2_2 c2_3 c3_0 c3_1 c3_2 cf s0 s1 s2 s3
    clear hb8
    go_wp2_with fail
    refine (vnamed_f _ _ _ _ _ _ _ _).mono ?_
    rintro e w9 ⟨rfl, hb9⟩
    have HB9 := Lib.hid (b_call HB8.out hb9)
    clear hb9
    obtain ⟨c0_0, c0_1, c0_2, c0_3, c1_0, c1_1, c1_2, c1_3, c2_0, c2_1, c2_2, c2_3, c3_0, c3_1, c3_2, cf, s0, s1, s2, s3⟩ := HK.out w9 HB9.out
    unfold aggD
    go_wp2_with fail
    exact bodyPost_ret (v := .agg #[.slice none 0 0, .slice none 0 0, .int .i64 5]) (by simp [results, Try.results126, go_sem, c3_0, c3_1, c3_2]) rfl (by
      show RetF _ _ _ _ _
      exact ⟨_, _, _, _, rfl, readI_nil _, readI_nil _, far_nil _ _ _ _ _, far_nil _ _ _ _ _, b_grown (b_call HBW.out HB9.out) (gb_set3 _ _ _ _ _) (by omega)⟩)
  · have D : Hid (ifNamed true ⟨[atL P.gl a], [], 0⟩ = ⟨[y], [], 0⟩) := Lib.hid (by rw [HY.out rfl]; rfl)
    go_wp2_with fail
    refine (vof_any _ _ _ _ _ _ _).mono ?_
    rintro e w8 ⟨rfl, hb8⟩
    have HB8 := Lib.hid (b_call (b_alloc HB3.out _) hb8)
    clear c0_0 c0_1 c0_2 c0_3 c1_0 c1_1 c1_2 c1_3 c2_0 c2_1 c2_2 c2_3 c3_0 c3_1 c3_2 cf s0 s1 s2 s3
    go_wp2_with fail
    refine (vnamed_t _ _ _ _ _ _ _ _).mono ?_
    rintro e w9 ⟨rfl, hb9⟩
    have HB9 := Lib.hid (b_call HB8.out hb9)
    have HC : Hid (Below (w3.alloc (.cells #[.int .i64 y] 3)).heap.size (w3.alloc (.cells #[.int .i64 y] 3)) w9) := Lib.hid (b_call hb8 hb9)
    clear hb8 hb9
    obtain ⟨c0_0, c0_1, c0_2, c0_3, c1_0, c1_1, c1_2, c1_3, c2_0, c2_1, c2_2, c2_3, c3_0, c3_1, c3_2, cf, s0, s1, s2, s3⟩ := HK.out w9 HB9.out
    have HS := Lib.hid (HK.out _ HB3.out)
    unfold aggD
    go_wp2_with fail
    have hx : w.heap.size + 3 < w3.heap.size := by have := HS.out; omega
    exact bodyPost_ret (v := .agg #[.slice (some ⟨w3.heap.size, 0, none⟩) 1 1, .slice none 0 0, .int .i64 0]) (by simp [results, Try.results126, go_sem, c3_0, c3_1, c3_2]) rfl (by
      show RetF _ _ _ _ _
      rw [D.out]
      exact ⟨_, _, _, _, rfl, lit_far (w2 := w3) [y] rfl (by simp) HC.out (gb_set3 _ _ _ _ _) hx, readI_nil _, far_new (by have := (b_call HBW.out HB3.out).size; omega), far_nil _ _ _ _ _, b_grown (b_call HBW.out HB9.out) (gb_set3 _ _ _ _ _) (by omega)⟩)
end Go.Proofs.Ytdmidnmciaediaa
