/- Layer 26: the document's Deal, part 2. Conditions: those stated. -/
import Derived.Test.YtdmidnmciaediaaVer3
namespace Go.Proofs.Ytdmidnmciaediaa
open Go.RowKit
set_option linter.unusedVariables false
set_option linter.unusedSimpArgs false
attribute [local go_sem] over_cell over_frozen
set_option maxRecDepth 100000 in
set_option maxHeartbeats 2000000 in
theorem rdeal8 (p : PrV) (P : PrM) (v : FnV) (f : FnM) (x a b : Int) (sa : Option Addr) (sc : Nat) (st : List Int) (w : World) (h : ReadP w p P) (hs : SmallP P) (hf : DeepF w v f) (h1 : f.ps.length ≤ 10) (h2 : f.ls.length ≤ 10) (hst : ReadI w (.slice sa st.length sc) st) (hl : st.length ≤ 100) : Calls Try.prog 81 #[aggP p, aggF v, .agg #[.int .i64 8, .int .u64 x, .int .i64 a, .int .i64 b], .slice sa st.length sc] w (RetD w (if st.length = 0 then bad 2 else ⟨[topL st], [], 0⟩)) := by
  obtain ⟨N, hN⟩ : ∃ N, N = st.length := ⟨_, rfl⟩
  rw [← hN] at hst hl ⊢
  by_cases h0 : N = 0
  · subst h0
    rw [if_pos rfl]
    have HN := Lib.hid hN
    clear hN
    obtain ⟨u, ⟨ga, gn, gc⟩, m, ⟨fa, fn, fc⟩⟩ := p
    obtain ⟨⟨pa, pn, pc⟩, ⟨la, ln, lc⟩, r, ⟨ca, cn, cc⟩⟩ := v
    have HR := Lib.hid h; have HF := Lib.hid hf; have HST := Lib.hid hst; have HS := Lib.hid hs
    have HL1 := Lib.hid h1; have HL2 := Lib.hid h2
    obtain ⟨hq0, hsc, hsc2⟩ := int_len (s := ⟨sa, 0, sc⟩) hst
    clear hq0
    simp only at hsc hsc2
    clear h hf hst hs h1 h2
    unfold aggP aggF Sl.v
    simp only
    go_enter Try.func81, Try.ntmps81
    go_upto_region 1 with fail
    refine wp_named ?_
    intro W hW
    obtain ⟨q1, q2, q3, q4⟩ := boxes3 w #[.bool u, .slice ga gn gc, .int .i64 m, .slice fa fn fc] #[.slice pa pn pc, .slice la ln lc, .int .i64 r, .slice ca cn cc] #[.int .i64 8, .int .u64 x, .int .i64 a, .int .i64 b] 25 35 98
    rw [← hW] at q1 q2 q3 q4
    have HBW := Lib.hid q4
    have HK : Hid (∀ w', Below W.heap.size W w' → (w'.cell? ⟨w.heap.size, 0, none⟩ = some (.bool u) ∧ w'.cell? ⟨w.heap.size, 1, none⟩ = some (.slice ga gn gc) ∧ w'.cell? ⟨w.heap.size, 2, none⟩ = some (.int .i64 m) ∧ w'.cell? ⟨w.heap.size, 3, none⟩ = some (.slice fa fn fc)) ∧ (w'.cell? ⟨w.heap.size + 1, 0, none⟩ = some (.slice pa pn pc) ∧ w'.cell? ⟨w.heap.size + 1, 1, none⟩ = some (.slice la ln lc) ∧ w'.cell? ⟨w.heap.size + 1, 2, none⟩ = some (.int .i64 r) ∧ w'.cell? ⟨w.heap.size + 1, 3, none⟩ = some (.slice ca cn cc)) ∧ (w'.cell? ⟨w.heap.size + 2, 0, none⟩ = some (.int .i64 8) ∧ w'.cell? ⟨w.heap.size + 2, 1, none⟩ = some (.int .u64 x) ∧ w'.cell? ⟨w.heap.size + 2, 2, none⟩ = some (.int .i64 a) ∧ w'.cell? ⟨w.heap.size + 2, 3, none⟩ = some (.int .i64 b) ∧ w.heap.size + 1 + 1 < w'.heap.size ∧ w.heap.size + 1 < w'.heap.size ∧ w.heap.size < w'.heap.size)) := Lib.hid (fun w' hb => by
      obtain ⟨y0, y1, y2, y3, _⟩ := blk4 (blk_below q1 hb)
      obtain ⟨z0, z1, z2, z3, _⟩ := blk4 (blk_below q2 hb)
      obtain ⟨x0, x1, x2, x3, _⟩ := blk4 (blk_below q3 hb)
      have hs1 := (blk_below q1 hb).1; have hs2 := (blk_below q2 hb).1; have hs3 := (blk_below q3 hb).1
      exact ⟨⟨y0, y1, y2, y3⟩, ⟨z0, z1, z2, z3⟩, x0, x1, x2, x3, hs3, hs2, hs1⟩)
    clear hW q1 q2 q3 q4
    obtain ⟨⟨y0, y1, y2, y3⟩, ⟨z0, z1, z2, z3⟩, x0, x1, x2, x3, s3, s2, s1⟩ := HK.out W (Below.refl _ _)
    go_wp2_with fail
    refine (rtable_any 8 (by decide) _).mono ?_
    rintro e w1 ⟨rfl, hb1⟩
    have HB1 := Lib.hid hb1
    clear y0 y1 y2 y3 z0 z1 z2 z3 x0 x1 x2 x3 s1 s2 s3 hb1
    obtain ⟨⟨y0, y1, y2, y3⟩, ⟨z0, z1, z2, z3⟩, x0, x1, x2, x3, s3, s2, s1⟩ := HK.out w1 HB1.out
    go_wp2_with fail
    go_ret3
    exact ⟨none, 0, none, 0, rfl, readI_nil _, readI_nil _, b_call HBW.out HB1.out⟩
  · rw [if_neg h0]
    obtain ⟨n, rfl⟩ : ∃ n, N = n + 1 := ⟨N - 1, by omega⟩
    obtain ⟨bb, oo, ea, hlt, hcell⟩ := int_at (s := ⟨sa, n + 1, sc⟩) hst (k := n) (by omega)
    simp only at ea
    subst ea
    have hz : topL st = st.getD n 0 := by unfold topL; rw [← hN]; rfl
    rw [← hz] at hcell
    generalize topL st = z at *
    have HCL := Lib.hid hcell
    have HN := Lib.hid hN
    clear hcell hz h0 hN
    obtain ⟨u, ⟨ga, gn, gc⟩, m, ⟨fa, fn, fc⟩⟩ := p
    obtain ⟨⟨pa, pn, pc⟩, ⟨la, ln, lc⟩, r, ⟨ca, cn, cc⟩⟩ := v
    have HR := Lib.hid h; have HF := Lib.hid hf; have HST := Lib.hid hst; have HS := Lib.hid hs
    have HL1 := Lib.hid h1; have HL2 := Lib.hid h2
    obtain ⟨hq0, hsc, hsc2⟩ := int_len (s := ⟨some ⟨bb, oo, none⟩, n + 1, sc⟩) hst
    clear hq0
    simp only at hsc hsc2
    rw [← HN.out] at hsc
    clear h hf hst hs h1 h2
    unfold aggP aggF Sl.v
    simp only
    go_enter Try.func81, Try.ntmps81
    go_upto_region 1 with fail
    refine wp_named ?_
    intro W hW
    obtain ⟨q1, q2, q3, q4⟩ := boxes3 w #[.bool u, .slice ga gn gc, .int .i64 m, .slice fa fn fc] #[.slice pa pn pc, .slice la ln lc, .int .i64 r, .slice ca cn cc] #[.int .i64 8, .int .u64 x, .int .i64 a, .int .i64 b] 25 35 98
    rw [← hW] at q1 q2 q3 q4
    have HBW := Lib.hid q4
    have HK : Hid (∀ w', Below W.heap.size W w' → (w'.cell? ⟨w.heap.size, 0, none⟩ = some (.bool u) ∧ w'.cell? ⟨w.heap.size, 1, none⟩ = some (.slice ga gn gc) ∧ w'.cell? ⟨w.heap.size, 2, none⟩ = some (.int .i64 m) ∧ w'.cell? ⟨w.heap.size, 3, none⟩ = some (.slice fa fn fc)) ∧ (w'.cell? ⟨w.heap.size + 1, 0, none⟩ = some (.slice pa pn pc) ∧ w'.cell? ⟨w.heap.size + 1, 1, none⟩ = some (.slice la ln lc) ∧ w'.cell? ⟨w.heap.size + 1, 2, none⟩ = some (.int .i64 r) ∧ w'.cell? ⟨w.heap.size + 1, 3, none⟩ = some (.slice ca cn cc)) ∧ (w'.cell? ⟨w.heap.size + 2, 0, none⟩ = some (.int .i64 8) ∧ w'.cell? ⟨w.heap.size + 2, 1, none⟩ = some (.int .u64 x) ∧ w'.cell? ⟨w.heap.size + 2, 2, none⟩ = some (.int .i64 a) ∧ w'.cell? ⟨w.heap.size + 2, 3, none⟩ = some (.int .i64 b) ∧ w.heap.size + 1 + 1 < w'.heap.size ∧ w.heap.size + 1 < w'.heap.size ∧ w.heap.size < w'.heap.size)) := Lib.hid (fun w' hb => by
      obtain ⟨y0, y1, y2, y3, _⟩ := blk4 (blk_below q1 hb)
      obtain ⟨z0, z1, z2, z3, _⟩ := blk4 (blk_below q2 hb)
      obtain ⟨x0, x1, x2, x3, _⟩ := blk4 (blk_below q3 hb)
      have hs1 := (blk_below q1 hb).1; have hs2 := (blk_below q2 hb).1; have hs3 := (blk_below q3 hb).1
      exact ⟨⟨y0, y1, y2, y3⟩, ⟨z0, z1, z2, z3⟩, x0, x1, x2, x3, hs3, hs2, hs1⟩)
    clear hW q1 q2 q3 q4
    obtain ⟨⟨y0, y1, y2, y3⟩, ⟨z0, z1, z2, z3⟩, x0, x1, x2, x3, s3, s2, s1⟩ := HK.out W (Below.refl _ _)
    go_wp2_with fail
    refine (rtable_any 8 (by decide) _).mono ?_
    rintro e w1 ⟨rfl, hb1⟩
    have HB1 := Lib.hid hb1
    clear y0 y1 y2 y3 z0 z1 z2 z3 x0 x1 x2 x3 s1 s2 s3 hb1
    obtain ⟨⟨y0, y1, y2, y3⟩, ⟨z0, z1, z2, z3⟩, x0, x1, x2, x3, s3, s2, s1⟩ := HK.out w1 HB1.out
    have hc1 : w1.cell? ⟨bb, oo + n, none⟩ = some (.int .i64 z) := ((bcell (b_call HBW.out HB1.out)).1 _ _ hlt).trans HCL.out
    have hbl : bb < w1.heap.size := by have := HBW.out.size; have := HB1.out.size; omega
    have n0 : (0 : Int) ≤ n := by omega
    have nb : (n : Int) + 1 ≤ 100 := by omega
    go_wp2_with fail
    go_ret3
    exact ⟨_, _, none, 0, rfl, readI_lit [z] (by simp) (by simp), readI_nil _, b_call HBW.out (b_alloc HB1.out _)⟩
set_option maxRecDepth 100000 in
set_option maxHeartbeats 2000000 in
theorem rdeal9 (p : PrV) (P : PrM) (v : FnV) (f : FnM) (x a b : Int) (sa : Option Addr) (sc : Nat) (st : List Int) (w : World) (h : ReadP w p P) (hs : SmallP P) (hf : DeepF w v f) (h1 : f.ps.length ≤ 10) (h2 : f.ls.length ≤ 10) (hst : ReadI w (.slice sa st.length sc) st) (hl : st.length ≤ 100) : Calls Try.prog 81 #[aggP p, aggF v, .agg #[.int .i64 9, .int .u64 x, .int .i64 a, .int .i64 b], .slice sa st.length sc] w (RetD w (if st.length = 0 then bad 2 else ⟨[topL st], [topL st, topL st], 0⟩)) := by
  obtain ⟨N, hN⟩ : ∃ N, N = st.length := ⟨_, rfl⟩
  rw [← hN] at hst hl ⊢
  by_cases h0 : N = 0
  · subst h0
    rw [if_pos rfl]
    have HN := Lib.hid hN
    clear hN
    obtain ⟨u, ⟨ga, gn, gc⟩, m, ⟨fa, fn, fc⟩⟩ := p
    obtain ⟨⟨pa, pn, pc⟩, ⟨la, ln, lc⟩, r, ⟨ca, cn, cc⟩⟩ := v
    have HR := Lib.hid h; have HF := Lib.hid hf; have HST := Lib.hid hst; have HS := Lib.hid hs
    have HL1 := Lib.hid h1; have HL2 := Lib.hid h2
    obtain ⟨hq0, hsc, hsc2⟩ := int_len (s := ⟨sa, 0, sc⟩) hst
    clear hq0
    simp only at hsc hsc2
    clear h hf hst hs h1 h2
    unfold aggP aggF Sl.v
    simp only
    go_enter Try.func81, Try.ntmps81
    go_upto_region 1 with fail
    refine wp_named ?_
    intro W hW
    obtain ⟨q1, q2, q3, q4⟩ := boxes3 w #[.bool u, .slice ga gn gc, .int .i64 m, .slice fa fn fc] #[.slice pa pn pc, .slice la ln lc, .int .i64 r, .slice ca cn cc] #[.int .i64 9, .int .u64 x, .int .i64 a, .int .i64 b] 25 35 98
    rw [← hW] at q1 q2 q3 q4
    have HBW := Lib.hid q4
    have HK : Hid (∀ w', Below W.heap.size W w' → (w'.cell? ⟨w.heap.size, 0, none⟩ = some (.bool u) ∧ w'.cell? ⟨w.heap.size, 1, none⟩ = some (.slice ga gn gc) ∧ w'.cell? ⟨w.heap.size, 2, none⟩ = some (.int .i64 m) ∧ w'.cell? ⟨w.heap.size, 3, none⟩ = some (.slice fa fn fc)) ∧ (w'.cell? ⟨w.heap.size + 1, 0, none⟩ = some (.slice pa pn pc) ∧ w'.cell? ⟨w.heap.size + 1, 1, none⟩ = some (.slice la ln lc) ∧ w'.cell? ⟨w.heap.size + 1, 2, none⟩ = some (.int .i64 r) ∧ w'.cell? ⟨w.heap.size + 1, 3, none⟩ = some (.slice ca cn cc)) ∧ (w'.cell? ⟨w.heap.size + 2, 0, none⟩ = some (.int .i64 9) ∧ w'.cell? ⟨w.heap.size + 2, 1, none⟩ = some (.int .u64 x) ∧ w'.cell? ⟨w.heap.size + 2, 2, none⟩ = some (.int .i64 a) ∧ w'.cell? ⟨w.heap.size + 2, 3, none⟩ = some (.int .i64 b) ∧ w.heap.size + 1 + 1 < w'.heap.size ∧ w.heap.size + 1 < w'.heap.size ∧ w.heap.size < w'.heap.size)) := Lib.hid (fun w' hb => by
      obtain ⟨y0, y1, y2, y3, _⟩ := blk4 (blk_below q1 hb)
      obtain ⟨z0, z1, z2, z3, _⟩ := blk4 (blk_below q2 hb)
      obtain ⟨x0, x1, x2, x3, _⟩ := blk4 (blk_below q3 hb)
      have hs1 := (blk_below q1 hb).1; have hs2 := (blk_below q2 hb).1; have hs3 := (blk_below q3 hb).1
      exact ⟨⟨y0, y1, y2, y3⟩, ⟨z0, z1, z2, z3⟩, x0, x1, x2, x3, hs3, hs2, hs1⟩)
    clear hW q1 q2 q3 q4
    obtain ⟨⟨y0, y1, y2, y3⟩, ⟨z0, z1, z2, z3⟩, x0, x1, x2, x3, s3, s2, s1⟩ := HK.out W (Below.refl _ _)
    go_wp2_with fail
    refine (rtable_any 9 (by decide) _).mono ?_
    rintro e w1 ⟨rfl, hb1⟩
    have HB1 := Lib.hid hb1
    clear y0 y1 y2 y3 z0 z1 z2 z3 x0 x1 x2 x3 s1 s2 s3 hb1
    obtain ⟨⟨y0, y1, y2, y3⟩, ⟨z0, z1, z2, z3⟩, x0, x1, x2, x3, s3, s2, s1⟩ := HK.out w1 HB1.out
    go_wp2_with fail
    go_ret3
    exact ⟨none, 0, none, 0, rfl, readI_nil _, readI_nil _, b_call HBW.out HB1.out⟩
  · rw [if_neg h0]
    obtain ⟨n, rfl⟩ : ∃ n, N = n + 1 := ⟨N - 1, by omega⟩
    obtain ⟨bb, oo, ea, hlt, hcell⟩ := int_at (s := ⟨sa, n + 1, sc⟩) hst (k := n) (by omega)
    simp only at ea
    subst ea
    have hz : topL st = st.getD n 0 := by unfold topL; rw [← hN]; rfl
    rw [← hz] at hcell
    generalize topL st = z at *
    have HCL := Lib.hid hcell
    have HN := Lib.hid hN
    clear hcell hz h0 hN
    obtain ⟨u, ⟨ga, gn, gc⟩, m, ⟨fa, fn, fc⟩⟩ := p
    obtain ⟨⟨pa, pn, pc⟩, ⟨la, ln, lc⟩, r, ⟨ca, cn, cc⟩⟩ := v
    have HR := Lib.hid h; have HF := Lib.hid hf; have HST := Lib.hid hst; have HS := Lib.hid hs
    have HL1 := Lib.hid h1; have HL2 := Lib.hid h2
    obtain ⟨hq0, hsc, hsc2⟩ := int_len (s := ⟨some ⟨bb, oo, none⟩, n + 1, sc⟩) hst
    clear hq0
    simp only at hsc hsc2
    rw [← HN.out] at hsc
    clear h hf hst hs h1 h2
    unfold aggP aggF Sl.v
    simp only
    go_enter Try.func81, Try.ntmps81
    go_upto_region 1 with fail
    refine wp_named ?_
    intro W hW
    obtain ⟨q1, q2, q3, q4⟩ := boxes3 w #[.bool u, .slice ga gn gc, .int .i64 m, .slice fa fn fc] #[.slice pa pn pc, .slice la ln lc, .int .i64 r, .slice ca cn cc] #[.int .i64 9, .int .u64 x, .int .i64 a, .int .i64 b] 25 35 98
    rw [← hW] at q1 q2 q3 q4
    have HBW := Lib.hid q4
    have HK : Hid (∀ w', Below W.heap.size W w' → (w'.cell? ⟨w.heap.size, 0, none⟩ = some (.bool u) ∧ w'.cell? ⟨w.heap.size, 1, none⟩ = some (.slice ga gn gc) ∧ w'.cell? ⟨w.heap.size, 2, none⟩ = some (.int .i64 m) ∧ w'.cell? ⟨w.heap.size, 3, none⟩ = some (.slice fa fn fc)) ∧ (w'.cell? ⟨w.heap.size + 1, 0, none⟩ = some (.slice pa pn pc) ∧ w'.cell? ⟨w.heap.size + 1, 1, none⟩ = some (.slice la ln lc) ∧ w'.cell? ⟨w.heap.size + 1, 2, none⟩ = some (.int .i64 r) ∧ w'.cell? ⟨w.heap.size + 1, 3, none⟩ = some (.slice ca cn cc)) ∧ (w'.cell? ⟨w.heap.size + 2, 0, none⟩ = some (.int .i64 9) ∧ w'.cell? ⟨w.heap.size + 2, 1, none⟩ = some (.int .u64 x) ∧ w'.cell? ⟨w.heap.size + 2, 2, none⟩ = some (.int .i64 a) ∧ w'.cell? ⟨w.heap.size + 2, 3, none⟩ = some (.int .i64 b) ∧ w.heap.size + 1 + 1 < w'.heap.size ∧ w.heap.size + 1 < w'.heap.size ∧ w.heap.size < w'.heap.size)) := Lib.hid (fun w' hb => by
      obtain ⟨y0, y1, y2, y3, _⟩ := blk4 (blk_below q1 hb)
      obtain ⟨z0, z1, z2, z3, _⟩ := blk4 (blk_below q2 hb)
      obtain ⟨x0, x1, x2, x3, _⟩ := blk4 (blk_below q3 hb)
      have hs1 := (blk_below q1 hb).1; have hs2 := (blk_below q2 hb).1; have hs3 := (blk_below q3 hb).1
      exact ⟨⟨y0, y1, y2, y3⟩, ⟨z0, z1, z2, z3⟩, x0, x1, x2, x3, hs3, hs2, hs1⟩)
    clear hW q1 q2 q3 q4
    obtain ⟨⟨y0, y1, y2, y3⟩, ⟨z0, z1, z2, z3⟩, x0, x1, x2, x3, s3, s2, s1⟩ := HK.out W (Below.refl _ _)
    go_wp2_with fail
    refine (rtable_any 9 (by decide) _).mono ?_
    rintro e w1 ⟨rfl, hb1⟩
    have HB1 := Lib.hid hb1
    clear y0 y1 y2 y3 z0 z1 z2 z3 x0 x1 x2 x3 s1 s2 s3 hb1
    obtain ⟨⟨y0, y1, y2, y3⟩, ⟨z0, z1, z2, z3⟩, x0, x1, x2, x3, s3, s2, s1⟩ := HK.out w1 HB1.out
    have hc1 : w1.cell? ⟨bb, oo + n, none⟩ = some (.int .i64 z) := ((bcell (b_call HBW.out HB1.out)).1 _ _ hlt).trans HCL.out
    have hbl : bb < w1.heap.size := by have := HBW.out.size; have := HB1.out.size; omega
    have n0 : (0 : Int) ≤ n := by omega
    have nb : (n : Int) + 1 ≤ 100 := by omega
    go_wp2_with fail
    go_ret3
    exact ⟨_, _, _, _, rfl, readI_below (readI_lit [z] (by simp) (by simp)) (b_alloc (Below.refl _ _) _), readI_lit [z, z] (by simp) (by simp), b_call HBW.out (b_alloc (b_alloc HB1.out _) _)⟩
set_option maxRecDepth 100000 in
set_option maxHeartbeats 2000000 in
theorem rdeal10 (p : PrV) (P : PrM) (v : FnV) (f : FnM) (x a b : Int) (sa : Option Addr) (sc : Nat) (st : List Int) (w : World) (h : ReadP w p P) (hs : SmallP P) (hf : DeepF w v f) (h1 : f.ps.length ≤ 10) (h2 : f.ls.length ≤ 10) (hst : ReadI w (.slice sa st.length sc) st) (hl : st.length ≤ 100) : Calls Try.prog 81 #[aggP p, aggF v, .agg #[.int .i64 10, .int .u64 x, .int .i64 a, .int .i64 b], .slice sa st.length sc] w (RetD w (ifNamed (decide (0 ≤ utO a)) ⟨[utO a], [ugO a], 0⟩)) := by
  obtain ⟨u, ⟨ga, gn, gc⟩, m, ⟨fa, fn, fc⟩⟩ := p
  obtain ⟨⟨pa, pn, pc⟩, ⟨la, ln, lc⟩, r, ⟨ca, cn, cc⟩⟩ := v
  have HR := Lib.hid h; have HF := Lib.hid hf; have HST := Lib.hid hst; have HS := Lib.hid hs
  have HL1 := Lib.hid h1; have HL2 := Lib.hid h2
  obtain ⟨hq0, hsc, hsc2⟩ := int_len (s := ⟨sa, st.length, sc⟩) hst
  clear hq0
  simp only at hsc hsc2
  clear h hf hst hs h1 h2
  unfold aggP aggF Sl.v
  simp only
  go_enter Try.func81, Try.ntmps81
  go_upto_region 1 with fail
  refine wp_named ?_
  intro W hW
  obtain ⟨q1, q2, q3, q4⟩ := boxes3 w #[.bool u, .slice ga gn gc, .int .i64 m, .slice fa fn fc] #[.slice pa pn pc, .slice la ln lc, .int .i64 r, .slice ca cn cc] #[.int .i64 10, .int .u64 x, .int .i64 a, .int .i64 b] 25 35 98
  rw [← hW] at q1 q2 q3 q4
  have HBW := Lib.hid q4
  have HK : Hid (∀ w', Below W.heap.size W w' → (w'.cell? ⟨w.heap.size, 0, none⟩ = some (.bool u) ∧ w'.cell? ⟨w.heap.size, 1, none⟩ = some (.slice ga gn gc) ∧ w'.cell? ⟨w.heap.size, 2, none⟩ = some (.int .i64 m) ∧ w'.cell? ⟨w.heap.size, 3, none⟩ = some (.slice fa fn fc)) ∧ (w'.cell? ⟨w.heap.size + 1, 0, none⟩ = some (.slice pa pn pc) ∧ w'.cell? ⟨w.heap.size + 1, 1, none⟩ = some (.slice la ln lc) ∧ w'.cell? ⟨w.heap.size + 1, 2, none⟩ = some (.int .i64 r) ∧ w'.cell? ⟨w.heap.size + 1, 3, none⟩ = some (.slice ca cn cc)) ∧ (w'.cell? ⟨w.heap.size + 2, 0, none⟩ = some (.int .i64 10) ∧ w'.cell? ⟨w.heap.size + 2, 1, none⟩ = some (.int .u64 x) ∧ w'.cell? ⟨w.heap.size + 2, 2, none⟩ = some (.int .i64 a) ∧ w'.cell? ⟨w.heap.size + 2, 3, none⟩ = some (.int .i64 b) ∧ w.heap.size + 1 + 1 < w'.heap.size ∧ w.heap.size + 1 < w'.heap.size ∧ w.heap.size < w'.heap.size)) := Lib.hid (fun w' hb => by
    obtain ⟨y0, y1, y2, y3, _⟩ := blk4 (blk_below q1 hb)
    obtain ⟨z0, z1, z2, z3, _⟩ := blk4 (blk_below q2 hb)
    obtain ⟨x0, x1, x2, x3, _⟩ := blk4 (blk_below q3 hb)
    have hs1 := (blk_below q1 hb).1; have hs2 := (blk_below q2 hb).1; have hs3 := (blk_below q3 hb).1
    exact ⟨⟨y0, y1, y2, y3⟩, ⟨z0, z1, z2, z3⟩, x0, x1, x2, x3, hs3, hs2, hs1⟩)
  clear hW q1 q2 q3 q4
  obtain ⟨⟨y0, y1, y2, y3⟩, ⟨z0, z1, z2, z3⟩, x0, x1, x2, x3, s3, s2, s1⟩ := HK.out W (Below.refl _ _)
  go_wp2_with fail
  refine (rtable_any 10 (by decide) _).mono ?_
  rintro e w1 ⟨rfl, hb1⟩
  have HB1 := Lib.hid hb1
  clear y0 y1 y2 y3 z0 z1 z2 z3 x0 x1 x2 x3 s1 s2 s3 hb1
  obtain ⟨⟨y0, y1, y2, y3⟩, ⟨z0, z1, z2, z3⟩, x0, x1, x2, x3, s3, s2, s1⟩ := HK.out w1 HB1.out
  have HT2 := Lib.hid (utakes_any a)
  have HG2 := Lib.hid (ugives_any a)
  generalize utO a = z at *
  generalize ugO a = g at *
  go_wp2_with fail
  refine (HT2.out _).mono ?_
  rintro e w2 ⟨rfl, hb2⟩
  have HB2 := Lib.hid (b_call HB1.out hb2)
  clear hb2
  clear y0 y1 y2 y3 z0 z1 z2 z3 x0 x1 x2 x3 s1 s2 s3
  obtain ⟨⟨y0, y1, y2, y3⟩, ⟨z0, z1, z2, z3⟩, x0, x1, x2, x3, s3, s2, s1⟩ := HK.out w2 HB2.out
  by_cases hz : 0 ≤ z
  · have D : Hid (ifNamed (decide (0 ≤ z)) ⟨[z], [g], 0⟩ = ⟨[z], [g], 0⟩) := Lib.hid (by rw [decide_eq_true hz]; rfl)
    have hz3 : ¬ (z < 0) := by omega
    go_wp2_with fail
    refine (HG2.out _).mono ?_
    rintro e w4 ⟨rfl, hb4⟩
    have HB4 := Lib.hid (b_call (b_alloc HB2.out (.cells #[.int .i64 z] 3)) hb4)
    have HL4 : Hid (ReadI w4 (.slice (some ⟨w2.heap.size, 0, none⟩) 1 1) [z]) := Lib.hid (readI_below (readI_lit [z] rfl (by simp)) hb4)
    clear hb4
    go_wp2_with fail
    go_ret3
    show RetD w _ _ _
    rw [D.out]
    exact ⟨_, _, _, _, rfl, readI_below HL4.out (b_alloc (Below.refl _ _) _), readI_lit [g] (by simp) (by simp), b_call HBW.out (b_alloc HB4.out _)⟩
  · have D : Hid (ifNamed (decide (0 ≤ z)) ⟨[z], [g], 0⟩ = bad 5) := Lib.hid (by rw [decide_eq_false hz]; rfl)
    have hz2 : z < 0 := by omega
    clear hz
    go_wp2_with fail
    go_ret3
    show RetD w _ _ _
    rw [D.out]
    exact ⟨none, 0, none, 0, rfl, readI_nil _, readI_nil _, b_call HBW.out HB2.out⟩
set_option maxRecDepth 100000 in
set_option maxHeartbeats 2000000 in
theorem rdeal11 (p : PrV) (P : PrM) (v : FnV) (f : FnM) (x a b : Int) (sa : Option Addr) (sc : Nat) (st : List Int) (w : World) (h : ReadP w p P) (hs : SmallP P) (hf : DeepF w v f) (h1 : f.ps.length ≤ 10) (h2 : f.ls.length ≤ 10) (hst : ReadI w (.slice sa st.length sc) st) (hl : st.length ≤ 100) : Calls Try.prog 81 #[aggP p, aggF v, .agg #[.int .i64 11, .int .u64 x, .int .i64 a, .int .i64 b], .slice sa st.length sc] w (RetD w (ifNamed (decide (0 ≤ takesO a)) ⟨[takesO a, takesO a], [givesO a], 0⟩)) := by
  obtain ⟨u, ⟨ga, gn, gc⟩, m, ⟨fa, fn, fc⟩⟩ := p
  obtain ⟨⟨pa, pn, pc⟩, ⟨la, ln, lc⟩, r, ⟨ca, cn, cc⟩⟩ := v
  have HR := Lib.hid h; have HF := Lib.hid hf; have HST := Lib.hid hst; have HS := Lib.hid hs
  have HL1 := Lib.hid h1; have HL2 := Lib.hid h2
  obtain ⟨hq0, hsc, hsc2⟩ := int_len (s := ⟨sa, st.length, sc⟩) hst
  clear hq0
  simp only at hsc hsc2
  clear h hf hst hs h1 h2
  unfold aggP aggF Sl.v
  simp only
  go_enter Try.func81, Try.ntmps81
  go_upto_region 1 with fail
  refine wp_named ?_
  intro W hW
  obtain ⟨q1, q2, q3, q4⟩ := boxes3 w #[.bool u, .slice ga gn gc, .int .i64 m, .slice fa fn fc] #[.slice pa pn pc, .slice la ln lc, .int .i64 r, .slice ca cn cc] #[.int .i64 11, .int .u64 x, .int .i64 a, .int .i64 b] 25 35 98
  rw [← hW] at q1 q2 q3 q4
  have HBW := Lib.hid q4
  have HK : Hid (∀ w', Below W.heap.size W w' → (w'.cell? ⟨w.heap.size, 0, none⟩ = some (.bool u) ∧ w'.cell? ⟨w.heap.size, 1, none⟩ = some (.slice ga gn gc) ∧ w'.cell? ⟨w.heap.size, 2, none⟩ = some (.int .i64 m) ∧ w'.cell? ⟨w.heap.size, 3, none⟩ = some (.slice fa fn fc)) ∧ (w'.cell? ⟨w.heap.size + 1, 0, none⟩ = some (.slice pa pn pc) ∧ w'.cell? ⟨w.heap.size + 1, 1, none⟩ = some (.slice la ln lc) ∧ w'.cell? ⟨w.heap.size + 1, 2, none⟩ = some (.int .i64 r) ∧ w'.cell? ⟨w.heap.size + 1, 3, none⟩ = some (.slice ca cn cc)) ∧ (w'.cell? ⟨w.heap.size + 2, 0, none⟩ = some (.int .i64 11) ∧ w'.cell? ⟨w.heap.size + 2, 1, none⟩ = some (.int .u64 x) ∧ w'.cell? ⟨w.heap.size + 2, 2, none⟩ = some (.int .i64 a) ∧ w'.cell? ⟨w.heap.size + 2, 3, none⟩ = some (.int .i64 b) ∧ w.heap.size + 1 + 1 < w'.heap.size ∧ w.heap.size + 1 < w'.heap.size ∧ w.heap.size < w'.heap.size)) := Lib.hid (fun w' hb => by
    obtain ⟨y0, y1, y2, y3, _⟩ := blk4 (blk_below q1 hb)
    obtain ⟨z0, z1, z2, z3, _⟩ := blk4 (blk_below q2 hb)
    obtain ⟨x0, x1, x2, x3, _⟩ := blk4 (blk_below q3 hb)
    have hs1 := (blk_below q1 hb).1; have hs2 := (blk_below q2 hb).1; have hs3 := (blk_below q3 hb).1
    exact ⟨⟨y0, y1, y2, y3⟩, ⟨z0, z1, z2, z3⟩, x0, x1, x2, x3, hs3, hs2, hs1⟩)
  clear hW q1 q2 q3 q4
  obtain ⟨⟨y0, y1, y2, y3⟩, ⟨z0, z1, z2, z3⟩, x0, x1, x2, x3, s3, s2, s1⟩ := HK.out W (Below.refl _ _)
  go_wp2_with fail
  refine (rtable_any 11 (by decide) _).mono ?_
  rintro e w1 ⟨rfl, hb1⟩
  have HB1 := Lib.hid hb1
  clear y0 y1 y2 y3 z0 z1 z2 z3 x0 x1 x2 x3 s1 s2 s3 hb1
  obtain ⟨⟨y0, y1, y2, y3⟩, ⟨z0, z1, z2, z3⟩, x0, x1, x2, x3, s3, s2, s1⟩ := HK.out w1 HB1.out
  have HT2 := Lib.hid (takes_any a)
  have HG2 := Lib.hid (gives_any a)
  generalize takesO a = z at *
  generalize givesO a = g at *
  go_wp2_with fail
  refine (HT2.out _).mono ?_
  rintro e w2 ⟨rfl, hw2⟩
  have HB2 : Hid (Below W.heap.size W w2) := by subst hw2; exact HB1
  clear hw2
  clear y0 y1 y2 y3 z0 z1 z2 z3 x0 x1 x2 x3 s1 s2 s3
  obtain ⟨⟨y0, y1, y2, y3⟩, ⟨z0, z1, z2, z3⟩, x0, x1, x2, x3, s3, s2, s1⟩ := HK.out w2 HB2.out
  by_cases hz : 0 ≤ z
  · have D : Hid (ifNamed (decide (0 ≤ z)) ⟨[z, z], [g], 0⟩ = ⟨[z, z], [g], 0⟩) := Lib.hid (by rw [decide_eq_true hz]; rfl)
    have hz3 : ¬ (z < 0) := by omega
    go_wp2_with fail
    refine (HG2.out _).mono ?_
    rintro e w4 ⟨rfl, hw4⟩
    subst hw4
    go_wp2_with fail
    go_ret3
    show RetD w _ _ _
    rw [D.out]
    exact ⟨_, _, _, _, rfl, readI_below (readI_lit [z, z] (by simp) (by simp)) (b_alloc (Below.refl _ _) _), readI_lit [g] (by simp) (by simp), b_call HBW.out (b_alloc (b_alloc HB2.out _) _)⟩
  · have D : Hid (ifNamed (decide (0 ≤ z)) ⟨[z, z], [g], 0⟩ = bad 5) := Lib.hid (by rw [decide_eq_false hz]; rfl)
    have hz2 : z < 0 := by omega
    clear hz
    go_wp2_with fail
    go_ret3
    show RetD w _ _ _
    rw [D.out]
    exact ⟨none, 0, none, 0, rfl, readI_nil _, readI_nil _, b_call HBW.out HB2.out⟩
set_option maxRecDepth 100000 in
set_option maxHeartbeats 2000000 in
theorem rdeal14 (p : PrV) (P : PrM) (v : FnV) (f : FnM) (x a b : Int) (sa : Option Addr) (sc : Nat) (st : List Int) (w : World) (h : ReadP w p P) (hs : SmallP P) (hf : DeepF w v f) (h1 : f.ps.length ≤ 10) (h2 : f.ls.length ≤ 10) (hst : ReadI w (.slice sa st.length sc) st) (hl : st.length ≤ 100) (ha : 0 ≤ a) : Calls Try.prog 81 #[aggP p, aggF v, .agg #[.int .i64 14, .int .u64 x, .int .i64 a, .int .i64 b], .slice sa st.length sc] w (RetD w (ifNamed (inFs P a) ⟨(fnAtM P a).ps, [(fnAtM P a).r], 0⟩)) := by
  obtain ⟨D, hD⟩ : ∃ D, D = ifNamed (inFs P a) ⟨(fnAtM P a).ps, [(fnAtM P a).r], 0⟩ := ⟨_, rfl⟩
  have HD := Lib.hid hD
  rw [← hD]
  clear hD
  obtain ⟨u, ⟨ga, gn, gc⟩, m, ⟨fa, fn, fc⟩⟩ := p
  obtain ⟨⟨pa, pn, pc⟩, ⟨la, ln, lc⟩, r, ⟨ca, cn, cc⟩⟩ := v
  have HR := Lib.hid h; have HF := Lib.hid hf; have HST := Lib.hid hst; have HS := Lib.hid hs
  have HL1 := Lib.hid h1; have HL2 := Lib.hid h2
  obtain ⟨hq0, hsc, hsc2⟩ := int_len (s := ⟨sa, st.length, sc⟩) hst
  clear hq0
  simp only at hsc hsc2
  clear h hf hst hs h1 h2
  unfold aggP aggF Sl.v
  simp only
  go_enter Try.func81, Try.ntmps81
  go_upto_region 1 with fail
  refine wp_named ?_
  intro W hW
  obtain ⟨q1, q2, q3, q4⟩ := boxes3 w #[.bool u, .slice ga gn gc, .int .i64 m, .slice fa fn fc] #[.slice pa pn pc, .slice la ln lc, .int .i64 r, .slice ca cn cc] #[.int .i64 14, .int .u64 x, .int .i64 a, .int .i64 b] 25 35 98
  rw [← hW] at q1 q2 q3 q4
  have HBW := Lib.hid q4
  have HK : Hid (∀ w', Below W.heap.size W w' → (w'.cell? ⟨w.heap.size, 0, none⟩ = some (.bool u) ∧ w'.cell? ⟨w.heap.size, 1, none⟩ = some (.slice ga gn gc) ∧ w'.cell? ⟨w.heap.size, 2, none⟩ = some (.int .i64 m) ∧ w'.cell? ⟨w.heap.size, 3, none⟩ = some (.slice fa fn fc)) ∧ (w'.cell? ⟨w.heap.size + 1, 0, none⟩ = some (.slice pa pn pc) ∧ w'.cell? ⟨w.heap.size + 1, 1, none⟩ = some (.slice la ln lc) ∧ w'.cell? ⟨w.heap.size + 1, 2, none⟩ = some (.int .i64 r) ∧ w'.cell? ⟨w.heap.size + 1, 3, none⟩ = some (.slice ca cn cc)) ∧ (w'.cell? ⟨w.heap.size + 2, 0, none⟩ = some (.int .i64 14) ∧ w'.cell? ⟨w.heap.size + 2, 1, none⟩ = some (.int .u64 x) ∧ w'.cell? ⟨w.heap.size + 2, 2, none⟩ = some (.int .i64 a) ∧ w'.cell? ⟨w.heap.size + 2, 3, none⟩ = some (.int .i64 b) ∧ w.heap.size + 1 + 1 < w'.heap.size ∧ w.heap.size + 1 < w'.heap.size ∧ w.heap.size < w'.heap.size)) := Lib.hid (fun w' hb => by
    obtain ⟨y0, y1, y2, y3, _⟩ := blk4 (blk_below q1 hb)
    obtain ⟨z0, z1, z2, z3, _⟩ := blk4 (blk_below q2 hb)
    obtain ⟨x0, x1, x2, x3, _⟩ := blk4 (blk_below q3 hb)
    have hs1 := (blk_below q1 hb).1; have hs2 := (blk_below q2 hb).1; have hs3 := (blk_below q3 hb).1
    exact ⟨⟨y0, y1, y2, y3⟩, ⟨z0, z1, z2, z3⟩, x0, x1, x2, x3, hs3, hs2, hs1⟩)
  clear hW q1 q2 q3 q4
  obtain ⟨⟨y0, y1, y2, y3⟩, ⟨z0, z1, z2, z3⟩, x0, x1, x2, x3, s3, s2, s1⟩ := HK.out W (Below.refl _ _)
  go_wp2_with fail
  refine (rtable_any 14 (by decide) _).mono ?_
  rintro e w1 ⟨rfl, hb1⟩
  have HB1 := Lib.hid hb1
  clear y0 y1 y2 y3 z0 z1 z2 z3 x0 x1 x2 x3 s1 s2 s3 hb1
  obtain ⟨⟨y0, y1, y2, y3⟩, ⟨z0, z1, z2, z3⟩, x0, x1, x2, x3, s3, s2, s1⟩ := HK.out w1 HB1.out
  go_wp2_with fail
  refine (rnamed14 ⟨u, ⟨ga, gn, gc⟩, m, ⟨fa, fn, fc⟩⟩ P x a b _ (readP_below HR.out (b_call HBW.out HB1.out)) HS.out ha).mono ?_
  rw [← HD.out]
  rintro e w2 ⟨a8, c8, a9, c9, rfl, hr8, hr9, hb2⟩
  have HR8 := Lib.hid hr8; have HR9 := Lib.hid hr9; have HB2 := Lib.hid (b_call HB1.out hb2)
  clear hr8 hr9 hb2
  go_wp2_with fail
  go_ret3
  exact ⟨a8, c8, a9, c9, rfl, HR8.out, HR9.out, b_call HBW.out HB2.out⟩
set_option maxRecDepth 100000 in
set_option maxHeartbeats 2000000 in
theorem rdeal28 (p : PrV) (P : PrM) (v : FnV) (f : FnM) (x a b : Int) (sa : Option Addr) (sc : Nat) (st : List Int) (w : World) (h : ReadP w p P) (hs : SmallP P) (hf : DeepF w v f) (h1 : f.ps.length ≤ 10) (h2 : f.ls.length ≤ 10) (hst : ReadI w (.slice sa st.length sc) st) (hl : st.length ≤ 100) (ha : 0 ≤ a) : Calls Try.prog 81 #[aggP p, aggF v, .agg #[.int .i64 28, .int .u64 x, .int .i64 a, .int .i64 b], .slice sa st.length sc] w (RetD w (ifNamed (inFs P a) (if (fnAtM P a).ps = [0] ∧ (fnAtM P a).r = 0 then ⟨[0], [0], 0⟩ else bad 7))) := by
  obtain ⟨D, hD⟩ : ∃ D, D = ifNamed (inFs P a) (if (fnAtM P a).ps = [0] ∧ (fnAtM P a).r = 0 then ⟨[0], [0], 0⟩ else bad 7) := ⟨_, rfl⟩
  have HD := Lib.hid hD
  rw [← hD]
  clear hD
  obtain ⟨u, ⟨ga, gn, gc⟩, m, ⟨fa, fn, fc⟩⟩ := p
  obtain ⟨⟨pa, pn, pc⟩, ⟨la, ln, lc⟩, r, ⟨ca, cn, cc⟩⟩ := v
  have HR := Lib.hid h; have HF := Lib.hid hf; have HST := Lib.hid hst; have HS := Lib.hid hs
  have HL1 := Lib.hid h1; have HL2 := Lib.hid h2
  obtain ⟨hq0, hsc, hsc2⟩ := int_len (s := ⟨sa, st.length, sc⟩) hst
  clear hq0
  simp only at hsc hsc2
  clear h hf hst hs h1 h2
  unfold aggP aggF Sl.v
  simp only
  go_enter Try.func81, Try.ntmps81
  go_upto_region 1 with fail
  refine wp_named ?_
  intro W hW
  obtain ⟨q1, q2, q3, q4⟩ := boxes3 w #[.bool u, .slice ga gn gc, .int .i64 m, .slice fa fn fc] #[.slice pa pn pc, .slice la ln lc, .int .i64 r, .slice ca cn cc] #[.int .i64 28, .int .u64 x, .int .i64 a, .int .i64 b] 25 35 98
  rw [← hW] at q1 q2 q3 q4
  have HBW := Lib.hid q4
  have HK : Hid (∀ w', Below W.heap.size W w' → (w'.cell? ⟨w.heap.size, 0, none⟩ = some (.bool u) ∧ w'.cell? ⟨w.heap.size, 1, none⟩ = some (.slice ga gn gc) ∧ w'.cell? ⟨w.heap.size, 2, none⟩ = some (.int .i64 m) ∧ w'.cell? ⟨w.heap.size, 3, none⟩ = some (.slice fa fn fc)) ∧ (w'.cell? ⟨w.heap.size + 1, 0, none⟩ = some (.slice pa pn pc) ∧ w'.cell? ⟨w.heap.size + 1, 1, none⟩ = some (.slice la ln lc) ∧ w'.cell? ⟨w.heap.size + 1, 2, none⟩ = some (.int .i64 r) ∧ w'.cell? ⟨w.heap.size + 1, 3, none⟩ = some (.slice ca cn cc)) ∧ (w'.cell? ⟨w.heap.size + 2, 0, none⟩ = some (.int .i64 28) ∧ w'.cell? ⟨w.heap.size + 2, 1, none⟩ = some (.int .u64 x) ∧ w'.cell? ⟨w.heap.size + 2, 2, none⟩ = some (.int .i64 a) ∧ w'.cell? ⟨w.heap.size + 2, 3, none⟩ = some (.int .i64 b) ∧ w.heap.size + 1 + 1 < w'.heap.size ∧ w.heap.size + 1 < w'.heap.size ∧ w.heap.size < w'.heap.size)) := Lib.hid (fun w' hb => by
    obtain ⟨y0, y1, y2, y3, _⟩ := blk4 (blk_below q1 hb)
    obtain ⟨z0, z1, z2, z3, _⟩ := blk4 (blk_below q2 hb)
    obtain ⟨x0, x1, x2, x3, _⟩ := blk4 (blk_below q3 hb)
    have hs1 := (blk_below q1 hb).1; have hs2 := (blk_below q2 hb).1; have hs3 := (blk_below q3 hb).1
    exact ⟨⟨y0, y1, y2, y3⟩, ⟨z0, z1, z2, z3⟩, x0, x1, x2, x3, hs3, hs2, hs1⟩)
  clear hW q1 q2 q3 q4
  obtain ⟨⟨y0, y1, y2, y3⟩, ⟨z0, z1, z2, z3⟩, x0, x1, x2, x3, s3, s2, s1⟩ := HK.out W (Below.refl _ _)
  go_wp2_with fail
  refine (rtable_any 28 (by decide) _).mono ?_
  rintro e w1 ⟨rfl, hb1⟩
  have HB1 := Lib.hid hb1
  clear y0 y1 y2 y3 z0 z1 z2 z3 x0 x1 x2 x3 s1 s2 s3 hb1
  obtain ⟨⟨y0, y1, y2, y3⟩, ⟨z0, z1, z2, z3⟩, x0, x1, x2, x3, s3, s2, s1⟩ := HK.out w1 HB1.out
  go_wp2_with fail
  refine (rnamed28 ⟨u, ⟨ga, gn, gc⟩, m, ⟨fa, fn, fc⟩⟩ P x a b _ (readP_below HR.out (b_call HBW.out HB1.out)) HS.out ha).mono ?_
  rw [← HD.out]
  rintro e w2 ⟨a8, c8, a9, c9, rfl, hr8, hr9, hb2⟩
  have HR8 := Lib.hid hr8; have HR9 := Lib.hid hr9; have HB2 := Lib.hid (b_call HB1.out hb2)
  clear hr8 hr9 hb2
  go_wp2_with fail
  go_ret3
  exact ⟨a8, c8, a9, c9, rfl, HR8.out, HR9.out, b_call HBW.out HB2.out⟩
end Go.Proofs.Ytdmidnmciaediaa
