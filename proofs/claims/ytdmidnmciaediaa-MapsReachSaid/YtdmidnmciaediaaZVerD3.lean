/- Layer 26: the document's Deal, part 3. Conditions: those stated. -/
import Derived.Test.YtdmidnmciaediaaZVer3
namespace Go.Proofs.Ytdmidnmciaediaa
open Go.RowKit
set_option linter.unusedVariables false
set_option linter.unusedSimpArgs false
attribute [local go_sem] over_cell over_frozen
set_option maxRecDepth 100000 in
set_option maxHeartbeats 2000000 in
theorem rdeal15 (p : PrV) (P : PrM) (v : FnV) (f : FnM) (x a b : Int) (sa : Option Addr) (sc : Nat) (st : List Int) (w : World) (h : ReadP w p P) (hs : SmallP P) (hf : DeepF w v f) (h1 : f.ps.length ≤ 10) (h2 : f.ls.length ≤ 10) (hst : ReadI w (.slice sa st.length sc) st) (hl : st.length ≤ 100) : Calls Try.prog 81 #[aggP p, aggF v, .agg #[.int .i64 15, .int .u64 x, .int .i64 a, .int .i64 b], .slice sa st.length sc] w (RetD w (⟨[f.r], [], 0⟩)) := by
  have hr := hf.r
  rw [← hr]
  clear hr
  obtain ⟨u, ⟨ga, gn, gc⟩, m, ⟨fa, fn, fc⟩⟩ := p
  obtain ⟨⟨pa, pn, pc⟩, ⟨la, ln, lc⟩, r, ⟨ca, cn, cc⟩⟩ := v
  have HR := Lib.hid h; have HF := Lib.hid hf; have HST := Lib.hid hst; have HS := Lib.hid hs
  have HL1 := Lib.hid h1; have HL2 := Lib.hid h2
  obtain ⟨hq0, hsc, hsc2⟩ := int_len (s := ⟨sa, st.length, sc⟩) hst
  clear hq0
  simp only at hsc hsc2
  clear h hf hst hs h1 h2
  unfold aggP aggF Sl.v
  simp only
  go_enter Try.func81, Try.ntmps81
  go_upto_region 1 with fail
  refine wp_named ?_
  intro W hW
  obtain ⟨q1, q2, q3, q4⟩ := boxes3 w #[.bool u, .slice ga gn gc, .int .i64 m, .slice fa fn fc] #[.slice pa pn pc, .slice la ln lc, .int .i64 r, .slice ca cn cc] #[.int .i64 15, .int .u64 x, .int .i64 a, .int .i64 b] 25 35 98
  rw [← hW] at q1 q2 q3 q4
  have HBW := Lib.hid q4
  have HK : Hid (∀ w', Below W.heap.size W w' → (w'.cell? ⟨w.heap.size, 0, none⟩ = some (.bool u) ∧ w'.cell? ⟨w.heap.size, 1, none⟩ = some (.slice ga gn gc) ∧ w'.cell? ⟨w.heap.size, 2, none⟩ = some (.int .i64 m) ∧ w'.cell? ⟨w.heap.size, 3, none⟩ = some (.slice fa fn fc)) ∧ (w'.cell? ⟨w.heap.size + 1, 0, none⟩ = some (.slice pa pn pc) ∧ w'.cell? ⟨w.heap.size + 1, 1, none⟩ = some (.slice la ln lc) ∧ w'.cell? ⟨w.heap.size + 1, 2, none⟩ = some (.int .i64 r) ∧ w'.cell? ⟨w.heap.size + 1, 3, none⟩ = some (.slice ca cn cc)) ∧ (w'.cell? ⟨w.heap.size + 2, 0, none⟩ = some (.int .i64 15) ∧ w'.cell? ⟨w.heap.size + 2, 1, none⟩ = some (.int .u64 x) ∧ w'.cell? ⟨w.heap.size + 2, 2, none⟩ = some (.int .i64 a) ∧ w'.cell? ⟨w.heap.size + 2, 3, none⟩ = some (.int .i64 b) ∧ w.heap.size + 1 + 1 < w'.heap.size ∧ w.heap.size + 1 < w'.heap.size ∧ w.heap.size < w'.heap.size)) := Lib.hid (fun w' hb => by
    obtain ⟨y0, y1, y2, y3, _⟩ := blk4 (blk_below q1 hb)
    obtain ⟨z0, z1, z2, z3, _⟩ := blk4 (blk_below q2 hb)
    obtain ⟨x0, x1, x2, x3, _⟩ := blk4 (blk_below q3 hb)
    have hs1 := (blk_below q1 hb).1; have hs2 := (blk_below q2 hb).1; have hs3 := (blk_below q3 hb).1
    exact ⟨⟨y0, y1, y2, y3⟩, ⟨z0, z1, z2, z3⟩, x0, x1, x2, x3, hs3, hs2, hs1⟩)
  clear hW q1 q2 q3 q4
  obtain ⟨⟨y0, y1, y2, y3⟩, ⟨z0, z1, z2, z3⟩, x0, x1, x2, x3, s3, s2, s1⟩ := HK.out W (Below.refl _ _)
  go_wp2_with fail
  refine (rtable_any 15 (by decide) _).mono ?_
  rintro e w1 ⟨rfl, hb1⟩
  have HB1 := Lib.hid hb1
  clear y0 y1 y2 y3 z0 z1 z2 z3 x0 x1 x2 x3 s1 s2 s3 hb1
  obtain ⟨⟨y0, y1, y2, y3⟩, ⟨z0, z1, z2, z3⟩, x0, x1, x2, x3, s3, s2, s1⟩ := HK.out w1 HB1.out
  go_wp2_with fail
  go_ret3
  exact ⟨_, _, none, 0, rfl, readI_lit [r] (by simp) (by simp), readI_nil _, b_call HBW.out (b_alloc HB1.out _)⟩
set_option maxRecDepth 100000 in
set_option maxHeartbeats 2000000 in
theorem rdeal17 (p : PrV) (P : PrM) (v : FnV) (f : FnM) (x a b : Int) (sa : Option Addr) (sc : Nat) (st : List Int) (w : World) (h : ReadP w p P) (hs : SmallP P) (hf : DeepF w v f) (h1 : f.ps.length ≤ 10) (h2 : f.ls.length ≤ 10) (hst : ReadI w (.slice sa st.length sc) st) (hl : st.length ≤ 100) : Calls Try.prog 81 #[aggP p, aggF v, .agg #[.int .i64 17, .int .u64 x, .int .i64 a, .int .i64 b], .slice sa st.length sc] w (RetD w (ifNamed (okS a b) ⟨[], [2], 0⟩)) := by
  have hq := rshp_any a b
  obtain ⟨u, ⟨ga, gn, gc⟩, m, ⟨fa, fn, fc⟩⟩ := p
  obtain ⟨⟨pa, pn, pc⟩, ⟨la, ln, lc⟩, r, ⟨ca, cn, cc⟩⟩ := v
  have HR := Lib.hid h; have HF := Lib.hid hf; have HST := Lib.hid hst; have HS := Lib.hid hs
  have HL1 := Lib.hid h1; have HL2 := Lib.hid h2
  obtain ⟨hq0, hsc, hsc2⟩ := int_len (s := ⟨sa, st.length, sc⟩) hst
  clear hq0
  simp only at hsc hsc2
  clear h hf hst hs h1 h2
  unfold aggP aggF Sl.v
  simp only
  go_enter Try.func81, Try.ntmps81
  go_upto_region 1 with fail
  refine wp_named ?_
  intro W hW
  obtain ⟨q1, q2, q3, q4⟩ := boxes3 w #[.bool u, .slice ga gn gc, .int .i64 m, .slice fa fn fc] #[.slice pa pn pc, .slice la ln lc, .int .i64 r, .slice ca cn cc] #[.int .i64 17, .int .u64 x, .int .i64 a, .int .i64 b] 25 35 98
  rw [← hW] at q1 q2 q3 q4
  have HBW := Lib.hid q4
  have HK : Hid (∀ w', Below W.heap.size W w' → (w'.cell? ⟨w.heap.size, 0, none⟩ = some (.bool u) ∧ w'.cell? ⟨w.heap.size, 1, none⟩ = some (.slice ga gn gc) ∧ w'.cell? ⟨w.heap.size, 2, none⟩ = some (.int .i64 m) ∧ w'.cell? ⟨w.heap.size, 3, none⟩ = some (.slice fa fn fc)) ∧ (w'.cell? ⟨w.heap.size + 1, 0, none⟩ = some (.slice pa pn pc) ∧ w'.cell? ⟨w.heap.size + 1, 1, none⟩ = some (.slice la ln lc) ∧ w'.cell? ⟨w.heap.size + 1, 2, none⟩ = some (.int .i64 r) ∧ w'.cell? ⟨w.heap.size + 1, 3, none⟩ = some (.slice ca cn cc)) ∧ (w'.cell? ⟨w.heap.size + 2, 0, none⟩ = some (.int .i64 17) ∧ w'.cell? ⟨w.heap.size + 2, 1, none⟩ = some (.int .u64 x) ∧ w'.cell? ⟨w.heap.size + 2, 2, none⟩ = some (.int .i64 a) ∧ w'.cell? ⟨w.heap.size + 2, 3, none⟩ = some (.int .i64 b) ∧ w.heap.size + 1 + 1 < w'.heap.size ∧ w.heap.size + 1 < w'.heap.size ∧ w.heap.size < w'.heap.size)) := Lib.hid (fun w' hb => by
    obtain ⟨y0, y1, y2, y3, _⟩ := blk4 (blk_below q1 hb)
    obtain ⟨z0, z1, z2, z3, _⟩ := blk4 (blk_below q2 hb)
    obtain ⟨x0, x1, x2, x3, _⟩ := blk4 (blk_below q3 hb)
    have hs1 := (blk_below q1 hb).1; have hs2 := (blk_below q2 hb).1; have hs3 := (blk_below q3 hb).1
    exact ⟨⟨y0, y1, y2, y3⟩, ⟨z0, z1, z2, z3⟩, x0, x1, x2, x3, hs3, hs2, hs1⟩)
  clear hW q1 q2 q3 q4
  obtain ⟨⟨y0, y1, y2, y3⟩, ⟨z0, z1, z2, z3⟩, x0, x1, x2, x3, s3, s2, s1⟩ := HK.out W (Below.refl _ _)
  go_wp2_with fail
  refine (rtable_any 17 (by decide) _).mono ?_
  rintro e w1 ⟨rfl, hb1⟩
  have HB1 := Lib.hid hb1
  clear y0 y1 y2 y3 z0 z1 z2 z3 x0 x1 x2 x3 s1 s2 s3 hb1
  obtain ⟨⟨y0, y1, y2, y3⟩, ⟨z0, z1, z2, z3⟩, x0, x1, x2, x3, s3, s2, s1⟩ := HK.out w1 HB1.out
  go_wp2_with fail
  refine (hq _).mono ?_
  rintro e w2 ⟨rfl, hb2⟩
  have HB2 := Lib.hid (b_call HB1.out hb2)
  clear hb2 hq
  clear y0 y1 y2 y3 z0 z1 z2 z3 x0 x1 x2 x3 s1 s2 s3
  obtain ⟨⟨y0, y1, y2, y3⟩, ⟨z0, z1, z2, z3⟩, x0, x1, x2, x3, s3, s2, s1⟩ := HK.out w2 HB2.out
  by_cases hok : 0 ≤ a ∧ 0 ≤ b ∧ a + b ≤ 15
  · have D : Hid (ifNamed (okS a b) ⟨[], [2], 0⟩ = ⟨[], [2], 0⟩) := Lib.hid (by rw [(okS_yes hok).1]; rfl)
    rw [(okS_yes hok).2]
    have h9 : ((8 + 8 * a + 8 * b) == 0) = false := by rw [beq_eq_false_iff_ne]; omega
    clear hok
    go_wp2_with fail
    refine (rkindsA 17 (by decide) _).mono ?_
    rintro e w8 ⟨a8, c8, rfl, hr8, hb8⟩
    have HR8 := Lib.hid hr8
    have HB8 := Lib.hid (b_call HB2.out hb8)
    clear hr8 hb8
    go_wp2_with fail
    refine (rkindsB 17 (by decide) _).mono ?_
    rintro e w9 ⟨a9, c9, rfl, hr9, hb9⟩
    have HR9 := Lib.hid hr9
    have HB9 := Lib.hid (b_call HB8.out hb9)
    have HR89 := Lib.hid (readI_below HR8.out hb9)
    clear hr9 hb9
    go_wp2_with fail
    go_ret3
    show RetD w _ _ _
    rw [D.out]
    exact ⟨a8, c8, a9, c9, rfl, HR89.out, HR9.out, b_call HBW.out HB9.out⟩
  · have D : Hid (ifNamed (okS a b) ⟨[], [2], 0⟩ = bad 5) := Lib.hid (by rw [(okS_no hok).1]; rfl)
    rw [(okS_no hok).2]
    clear hok
    go_wp2_with fail
    go_ret3
    show RetD w _ _ _
    rw [D.out]
    exact ⟨none, 0, none, 0, rfl, readI_nil _, readI_nil _, b_call HBW.out HB2.out⟩
set_option maxRecDepth 100000 in
set_option maxHeartbeats 2000000 in
theorem rdeal31 (p : PrV) (P : PrM) (v : FnV) (f : FnM) (x a b : Int) (sa : Option Addr) (sc : Nat) (st : List Int) (w : World) (h : ReadP w p P) (hs : SmallP P) (hf : DeepF w v f) (h1 : f.ps.length ≤ 10) (h2 : f.ls.length ≤ 10) (hst : ReadI w (.slice sa st.length sc) st) (hl : st.length ≤ 100) : Calls Try.prog 81 #[aggP p, aggF v, .agg #[.int .i64 31, .int .u64 x, .int .i64 a, .int .i64 b], .slice sa st.length sc] w (RetD w (ifNamed (decide (a < P.m)) ⟨[], [], 0⟩)) := by
  have hm := h.m
  rw [← hm]
  clear hm
  obtain ⟨u, ⟨ga, gn, gc⟩, m, ⟨fa, fn, fc⟩⟩ := p
  obtain ⟨⟨pa, pn, pc⟩, ⟨la, ln, lc⟩, r, ⟨ca, cn, cc⟩⟩ := v
  have HR := Lib.hid h; have HF := Lib.hid hf; have HST := Lib.hid hst; have HS := Lib.hid hs
  have HL1 := Lib.hid h1; have HL2 := Lib.hid h2
  obtain ⟨hq0, hsc, hsc2⟩ := int_len (s := ⟨sa, st.length, sc⟩) hst
  clear hq0
  simp only at hsc hsc2
  clear h hf hst hs h1 h2
  unfold aggP aggF Sl.v
  simp only
  go_enter Try.func81, Try.ntmps81
  go_upto_region 1 with fail
  refine wp_named ?_
  intro W hW
  obtain ⟨q1, q2, q3, q4⟩ := boxes3 w #[.bool u, .slice ga gn gc, .int .i64 m, .slice fa fn fc] #[.slice pa pn pc, .slice la ln lc, .int .i64 r, .slice ca cn cc] #[.int .i64 31, .int .u64 x, .int .i64 a, .int .i64 b] 25 35 98
  rw [← hW] at q1 q2 q3 q4
  have HBW := Lib.hid q4
  have HK : Hid (∀ w', Below W.heap.size W w' → (w'.cell? ⟨w.heap.size, 0, none⟩ = some (.bool u) ∧ w'.cell? ⟨w.heap.size, 1, none⟩ = some (.slice ga gn gc) ∧ w'.cell? ⟨w.heap.size, 2, none⟩ = some (.int .i64 m) ∧ w'.cell? ⟨w.heap.size, 3, none⟩ = some (.slice fa fn fc)) ∧ (w'.cell? ⟨w.heap.size + 1, 0, none⟩ = some (.slice pa pn pc) ∧ w'.cell? ⟨w.heap.size + 1, 1, none⟩ = some (.slice la ln lc) ∧ w'.cell? ⟨w.heap.size + 1, 2, none⟩ = some (.int .i64 r) ∧ w'.cell? ⟨w.heap.size + 1, 3, none⟩ = some (.slice ca cn cc)) ∧ (w'.cell? ⟨w.heap.size + 2, 0, none⟩ = some (.int .i64 31) ∧ w'.cell? ⟨w.heap.size + 2, 1, none⟩ = some (.int .u64 x) ∧ w'.cell? ⟨w.heap.size + 2, 2, none⟩ = some (.int .i64 a) ∧ w'.cell? ⟨w.heap.size + 2, 3, none⟩ = some (.int .i64 b) ∧ w.heap.size + 1 + 1 < w'.heap.size ∧ w.heap.size + 1 < w'.heap.size ∧ w.heap.size < w'.heap.size)) := Lib.hid (fun w' hb => by
    obtain ⟨y0, y1, y2, y3, _⟩ := blk4 (blk_below q1 hb)
    obtain ⟨z0, z1, z2, z3, _⟩ := blk4 (blk_below q2 hb)
    obtain ⟨x0, x1, x2, x3, _⟩ := blk4 (blk_below q3 hb)
    have hs1 := (blk_below q1 hb).1; have hs2 := (blk_below q2 hb).1; have hs3 := (blk_below q3 hb).1
    exact ⟨⟨y0, y1, y2, y3⟩, ⟨z0, z1, z2, z3⟩, x0, x1, x2, x3, hs3, hs2, hs1⟩)
  clear hW q1 q2 q3 q4
  obtain ⟨⟨y0, y1, y2, y3⟩, ⟨z0, z1, z2, z3⟩, x0, x1, x2, x3, s3, s2, s1⟩ := HK.out W (Below.refl _ _)
  go_wp2_with fail
  refine (rtable_any 31 (by decide) _).mono ?_
  rintro e w1 ⟨rfl, hb1⟩
  have HB1 := Lib.hid hb1
  clear y0 y1 y2 y3 z0 z1 z2 z3 x0 x1 x2 x3 s1 s2 s3 hb1
  obtain ⟨⟨y0, y1, y2, y3⟩, ⟨z0, z1, z2, z3⟩, x0, x1, x2, x3, s3, s2, s1⟩ := HK.out w1 HB1.out
  by_cases hlt : a < m
  · have D : Hid (ifNamed (decide (a < m)) ⟨[], [], 0⟩ = ⟨[], [], 0⟩) := Lib.hid (by rw [decide_eq_true hlt]; rfl)
    go_wp2_with fail
    refine (rkindsA 31 (by decide) _).mono ?_
    rintro e w8 ⟨a8, c8, rfl, hr8, hb8⟩
    have HR8 := Lib.hid hr8
    have HB8 := Lib.hid (b_call HB1.out hb8)
    clear hr8 hb8
    go_wp2_with fail
    refine (rkindsB 31 (by decide) _).mono ?_
    rintro e w9 ⟨a9, c9, rfl, hr9, hb9⟩
    have HR9 := Lib.hid hr9
    have HB9 := Lib.hid (b_call HB8.out hb9)
    have HR89 := Lib.hid (readI_below HR8.out hb9)
    clear hr9 hb9
    go_wp2_with fail
    go_ret3
    show RetD w _ _ _
    rw [D.out]
    exact ⟨a8, c8, a9, c9, rfl, HR89.out, HR9.out, b_call HBW.out HB9.out⟩
  · have D : Hid (ifNamed (decide (a < m)) ⟨[], [], 0⟩ = bad 5) := Lib.hid (by rw [decide_eq_false hlt]; rfl)
    go_wp2_with fail
    go_ret3
    show RetD w _ _ _
    rw [D.out]
    exact ⟨none, 0, none, 0, rfl, readI_nil _, readI_nil _, b_call HBW.out HB1.out⟩
set_option maxRecDepth 100000 in
set_option maxHeartbeats 2000000 in
theorem rdeal32 (p : PrV) (P : PrM) (v : FnV) (f : FnM) (x a b : Int) (sa : Option Addr) (sc : Nat) (st : List Int) (w : World) (h : ReadP w p P) (hs : SmallP P) (hf : DeepF w v f) (h1 : f.ps.length ≤ 10) (h2 : f.ls.length ≤ 10) (hst : ReadI w (.slice sa st.length sc) st) (hl : st.length ≤ 100) : Calls Try.prog 81 #[aggP p, aggF v, .agg #[.int .i64 32, .int .u64 x, .int .i64 a, .int .i64 b], .slice sa st.length sc] w (RetD w (ifNamed (decide (a < P.m)) ⟨[], [], 0⟩)) := by
  have hm := h.m
  rw [← hm]
  clear hm
  obtain ⟨u, ⟨ga, gn, gc⟩, m, ⟨fa, fn, fc⟩⟩ := p
  obtain ⟨⟨pa, pn, pc⟩, ⟨la, ln, lc⟩, r, ⟨ca, cn, cc⟩⟩ := v
  have HR := Lib.hid h; have HF := Lib.hid hf; have HST := Lib.hid hst; have HS := Lib.hid hs
  have HL1 := Lib.hid h1; have HL2 := Lib.hid h2
  obtain ⟨hq0, hsc, hsc2⟩ := int_len (s := ⟨sa, st.length, sc⟩) hst
  clear hq0
  simp only at hsc hsc2
  clear h hf hst hs h1 h2
  unfold aggP aggF Sl.v
  simp only
  go_enter Try.func81, Try.ntmps81
  go_upto_region 1 with fail
  refine wp_named ?_
  intro W hW
  obtain ⟨q1, q2, q3, q4⟩ := boxes3 w #[.bool u, .slice ga gn gc, .int .i64 m, .slice fa fn fc] #[.slice pa pn pc, .slice la ln lc, .int .i64 r, .slice ca cn cc] #[.int .i64 32, .int .u64 x, .int .i64 a, .int .i64 b] 25 35 98
  rw [← hW] at q1 q2 q3 q4
  have HBW := Lib.hid q4
  have HK : Hid (∀ w', Below W.heap.size W w' → (w'.cell? ⟨w.heap.size, 0, none⟩ = some (.bool u) ∧ w'.cell? ⟨w.heap.size, 1, none⟩ = some (.slice ga gn gc) ∧ w'.cell? ⟨w.heap.size, 2, none⟩ = some (.int .i64 m) ∧ w'.cell? ⟨w.heap.size, 3, none⟩ = some (.slice fa fn fc)) ∧ (w'.cell? ⟨w.heap.size + 1, 0, none⟩ = some (.slice pa pn pc) ∧ w'.cell? ⟨w.heap.size + 1, 1, none⟩ = some (.slice la ln lc) ∧ w'.cell? ⟨w.heap.size + 1, 2, none⟩ = some (.int .i64 r) ∧ w'.cell? ⟨w.heap.size + 1, 3, none⟩ = some (.slice ca cn cc)) ∧ (w'.cell? ⟨w.heap.size + 2, 0, none⟩ = some (.int .i64 32) ∧ w'.cell? ⟨w.heap.size + 2, 1, none⟩ = some (.int .u64 x) ∧ w'.cell? ⟨w.heap.size + 2, 2, none⟩ = some (.int .i64 a) ∧ w'.cell? ⟨w.heap.size + 2, 3, none⟩ = some (.int .i64 b) ∧ w.heap.size + 1 + 1 < w'.heap.size ∧ w.heap.size + 1 < w'.heap.size ∧ w.heap.size < w'.heap.size)) := Lib.hid (fun w' hb => by
    obtain ⟨y0, y1, y2, y3, _⟩ := blk4 (blk_below q1 hb)
    obtain ⟨z0, z1, z2, z3, _⟩ := blk4 (blk_below q2 hb)
    obtain ⟨x0, x1, x2, x3, _⟩ := blk4 (blk_below q3 hb)
    have hs1 := (blk_below q1 hb).1; have hs2 := (blk_below q2 hb).1; have hs3 := (blk_below q3 hb).1
    exact ⟨⟨y0, y1, y2, y3⟩, ⟨z0, z1, z2, z3⟩, x0, x1, x2, x3, hs3, hs2, hs1⟩)
  clear hW q1 q2 q3 q4
  obtain ⟨⟨y0, y1, y2, y3⟩, ⟨z0, z1, z2, z3⟩, x0, x1, x2, x3, s3, s2, s1⟩ := HK.out W (Below.refl _ _)
  go_wp2_with fail
  refine (rtable_any 32 (by decide) _).mono ?_
  rintro e w1 ⟨rfl, hb1⟩
  have HB1 := Lib.hid hb1
  clear y0 y1 y2 y3 z0 z1 z2 z3 x0 x1 x2 x3 s1 s2 s3 hb1
  obtain ⟨⟨y0, y1, y2, y3⟩, ⟨z0, z1, z2, z3⟩, x0, x1, x2, x3, s3, s2, s1⟩ := HK.out w1 HB1.out
  by_cases hlt : a < m
  · have D : Hid (ifNamed (decide (a < m)) ⟨[], [], 0⟩ = ⟨[], [], 0⟩) := Lib.hid (by rw [decide_eq_true hlt]; rfl)
    go_wp2_with fail
    refine (rkindsA 32 (by decide) _).mono ?_
    rintro e w8 ⟨a8, c8, rfl, hr8, hb8⟩
    have HR8 := Lib.hid hr8
    have HB8 := Lib.hid (b_call HB1.out hb8)
    clear hr8 hb8
    go_wp2_with fail
    refine (rkindsB 32 (by decide) _).mono ?_
    rintro e w9 ⟨a9, c9, rfl, hr9, hb9⟩
    have HR9 := Lib.hid hr9
    have HB9 := Lib.hid (b_call HB8.out hb9)
    have HR89 := Lib.hid (readI_below HR8.out hb9)
    clear hr9 hb9
    go_wp2_with fail
    go_ret3
    show RetD w _ _ _
    rw [D.out]
    exact ⟨a8, c8, a9, c9, rfl, HR89.out, HR9.out, b_call HBW.out HB9.out⟩
  · have D : Hid (ifNamed (decide (a < m)) ⟨[], [], 0⟩ = bad 5) := Lib.hid (by rw [decide_eq_false hlt]; rfl)
    go_wp2_with fail
    go_ret3
    show RetD w _ _ _
    rw [D.out]
    exact ⟨none, 0, none, 0, rfl, readI_nil _, readI_nil _, b_call HBW.out HB1.out⟩
set_option maxRecDepth 100000 in
set_option maxHeartbeats 2000000 in
theorem rdeal36 (p : PrV) (P : PrM) (v : FnV) (f : FnM) (x a b : Int) (sa : Option Addr) (sc : Nat) (st : List Int) (w : World) (h : ReadP w p P) (hs : SmallP P) (hf : DeepF w v f) (h1 : f.ps.length ≤ 10) (h2 : f.ls.length ≤ 10) (hst : ReadI w (.slice sa st.length sc) st) (hl : st.length ≤ 100) : Calls Try.prog 81 #[aggP p, aggF v, .agg #[.int .i64 36, .int .u64 x, .int .i64 a, .int .i64 b], .slice sa st.length sc] w (RetD w (if P.u = true then ⟨[0], [3], 0⟩ else bad 8)) := by
  have hu := h.u
  rw [← hu]
  clear hu
  obtain ⟨D, hD⟩ : ∃ D, D = (if p.u = true then (⟨[0], [3], 0⟩ : Deal) else bad 8) := ⟨_, rfl⟩
  have HD := Lib.hid hD
  rw [← hD]
  clear hD
  obtain ⟨u, ⟨ga, gn, gc⟩, m, ⟨fa, fn, fc⟩⟩ := p
  obtain ⟨⟨pa, pn, pc⟩, ⟨la, ln, lc⟩, r, ⟨ca, cn, cc⟩⟩ := v
  have HR := Lib.hid h; have HF := Lib.hid hf; have HST := Lib.hid hst; have HS := Lib.hid hs
  have HL1 := Lib.hid h1; have HL2 := Lib.hid h2
  obtain ⟨hq0, hsc, hsc2⟩ := int_len (s := ⟨sa, st.length, sc⟩) hst
  clear hq0
  simp only at hsc hsc2
  clear h hf hst hs h1 h2
  unfold aggP aggF Sl.v
  simp only
  go_enter Try.func81, Try.ntmps81
  go_upto_region 1 with fail
  refine wp_named ?_
  intro W hW
  obtain ⟨q1, q2, q3, q4⟩ := boxes3 w #[.bool u, .slice ga gn gc, .int .i64 m, .slice fa fn fc] #[.slice pa pn pc, .slice la ln lc, .int .i64 r, .slice ca cn cc] #[.int .i64 36, .int .u64 x, .int .i64 a, .int .i64 b] 25 35 98
  rw [← hW] at q1 q2 q3 q4
  have HBW := Lib.hid q4
  have HK : Hid (∀ w', Below W.heap.size W w' → (w'.cell? ⟨w.heap.size, 0, none⟩ = some (.bool u) ∧ w'.cell? ⟨w.heap.size, 1, none⟩ = some (.slice ga gn gc) ∧ w'.cell? ⟨w.heap.size, 2, none⟩ = some (.int .i64 m) ∧ w'.cell? ⟨w.heap.size, 3, none⟩ = some (.slice fa fn fc)) ∧ (w'.cell? ⟨w.heap.size + 1, 0, none⟩ = some (.slice pa pn pc) ∧ w'.cell? ⟨w.heap.size + 1, 1, none⟩ = some (.slice la ln lc) ∧ w'.cell? ⟨w.heap.size + 1, 2, none⟩ = some (.int .i64 r) ∧ w'.cell? ⟨w.heap.size + 1, 3, none⟩ = some (.slice ca cn cc)) ∧ (w'.cell? ⟨w.heap.size + 2, 0, none⟩ = some (.int .i64 36) ∧ w'.cell? ⟨w.heap.size + 2, 1, none⟩ = some (.int .u64 x) ∧ w'.cell? ⟨w.heap.size + 2, 2, none⟩ = some (.int .i64 a) ∧ w'.cell? ⟨w.heap.size + 2, 3, none⟩ = some (.int .i64 b) ∧ w.heap.size + 1 + 1 < w'.heap.size ∧ w.heap.size + 1 < w'.heap.size ∧ w.heap.size < w'.heap.size)) := Lib.hid (fun w' hb => by
    obtain ⟨y0, y1, y2, y3, _⟩ := blk4 (blk_below q1 hb)
    obtain ⟨z0, z1, z2, z3, _⟩ := blk4 (blk_below q2 hb)
    obtain ⟨x0, x1, x2, x3, _⟩ := blk4 (blk_below q3 hb)
    have hs1 := (blk_below q1 hb).1; have hs2 := (blk_below q2 hb).1; have hs3 := (blk_below q3 hb).1
    exact ⟨⟨y0, y1, y2, y3⟩, ⟨z0, z1, z2, z3⟩, x0, x1, x2, x3, hs3, hs2, hs1⟩)
  clear hW q1 q2 q3 q4
  obtain ⟨⟨y0, y1, y2, y3⟩, ⟨z0, z1, z2, z3⟩, x0, x1, x2, x3, s3, s2, s1⟩ := HK.out W (Below.refl _ _)
  go_wp2_with fail
  refine (rtable_any 36 (by decide) _).mono ?_
  rintro e w1 ⟨rfl, hb1⟩
  have HB1 := Lib.hid hb1
  clear y0 y1 y2 y3 z0 z1 z2 z3 x0 x1 x2 x3 s1 s2 s3 hb1
  obtain ⟨⟨y0, y1, y2, y3⟩, ⟨z0, z1, z2, z3⟩, x0, x1, x2, x3, s3, s2, s1⟩ := HK.out w1 HB1.out
  cases u
  · have E : Hid (D = bad 8) := HD
    go_wp2_with fail
    go_ret3
    show RetD w _ _ _
    rw [E.out]
    exact ⟨none, 0, none, 0, rfl, readI_nil _, readI_nil _, b_call HBW.out HB1.out⟩
  · have E : Hid (D = ⟨[0], [3], 0⟩) := HD
    go_wp2_with fail
    refine (rkindsA 36 (by decide) _).mono ?_
    rintro e w8 ⟨a8, c8, rfl, hr8, hb8⟩
    have HR8 := Lib.hid hr8
    have HB8 := Lib.hid (b_call HB1.out hb8)
    clear hr8 hb8
    go_wp2_with fail
    refine (rkindsB 36 (by decide) _).mono ?_
    rintro e w9 ⟨a9, c9, rfl, hr9, hb9⟩
    have HR9 := Lib.hid hr9
    have HB9 := Lib.hid (b_call HB8.out hb9)
    have HR89 := Lib.hid (readI_below HR8.out hb9)
    clear hr9 hb9
    go_wp2_with fail
    go_ret3
    show RetD w _ _ _
    rw [E.out]
    exact ⟨a8, c8, a9, c9, rfl, HR89.out, HR9.out, b_call HBW.out HB9.out⟩
end Go.Proofs.Ytdmidnmciaediaa
