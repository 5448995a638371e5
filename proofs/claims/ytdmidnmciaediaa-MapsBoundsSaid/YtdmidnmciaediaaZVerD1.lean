/- Layer 26: the document's Deal, part 1. Conditions: those stated. Layer 26: the document's Deal, part 2. Conditions: those stated. -/
import Derived.Test.YtdmidnmciaediaaZVer3
namespace Go.Proofs.Ytdmidnmciaediaa
section
open Go.RowKit
set_option linter.unusedVariables false
set_option linter.unusedSimpArgs false
attribute [local go_sem] over_cell over_frozen
set_option maxRecDepth 100000 in
set_option maxHeartbeats 2000000 in
theorem rdeal4 (p : PrV) (P : PrM) (v : FnV) (f : FnM) (x a b : Int) (sa : Option Addr) (sc : Nat) (st : List Int) (w : World) (h : ReadP w p P) (hs : SmallP P) (hf : DeepF w v f) (h1 : f.ps.length ≤ 10) (h2 : f.ls.length ≤ 10) (hst : ReadI w (.slice sa st.length sc) st) (hl : st.length ≤ 100) (hk : ∀ y ∈ (f.ps ++ f.ls), 0 ≤ y) : Calls Try.prog 81 #[aggP p, aggF v, .agg #[.int .i64 4, .int .u64 x, .int .i64 a, .int .i64 b], .slice sa st.length sc] w (RetD w (ifNamed (inL (f.ps ++ f.ls) a) ⟨[], [atL (f.ps ++ f.ls) a], 0⟩)) := by
  obtain ⟨z, hz⟩ : ∃ z, z = kindL (f.ps ++ f.ls) a := ⟨_, rfl⟩
  have HZ : Hid ((inL (f.ps ++ f.ls) a = true ∧ z = atL (f.ps ++ f.ls) a ∧ 0 ≤ z) ∨ (inL (f.ps ++ f.ls) a = false ∧ z = -1)) := Lib.hid (by
    unfold kindL at hz
    cases q : inL (f.ps ++ f.ls) a
    · rw [q] at hz; exact Or.inr ⟨rfl, hz⟩
    · rw [q] at hz
      refine Or.inl ⟨rfl, hz, ?_⟩
      rw [hz]
      unfold inL at q
      rw [Bool.and_eq_true, decide_eq_true_iff, decide_eq_true_iff] at q
      unfold atL
      rw [if_pos rfl, List.getD_eq_getElem?_getD, List.getElem?_eq_getElem (by omega)]
      exact hk _ (List.getElem_mem _))
  have HZE := Lib.hid hz
  clear hz hk
  obtain ⟨u, ⟨ga, gn, gc⟩, m, ⟨fa, fn, fc⟩⟩ := p
  obtain ⟨⟨pa, pn, pc⟩, ⟨la, ln, lc⟩, r, ⟨ca, cn, cc⟩⟩ := v
  have HR := Lib.hid h; have HF := Lib.hid hf; have HST := Lib.hid hst; have HS := Lib.hid hs
  have HL1 := Lib.hid h1; have HL2 := Lib.hid h2
  obtain ⟨hq0, hsc, hsc2⟩ := int_len (s := ⟨sa, st.length, sc⟩) hst
  clear hq0
  simp only at hsc hsc2
  clear h hf hst hs h1 h2
  unfold aggP aggF Sl.v
  simp only
  go_enter Try.func81, Try.ntmps81
  go_upto_region 1 with fail
  refine wp_named ?_
  intro W hW
  obtain ⟨q1, q2, q3, q4⟩ := boxes3 w #[.bool u, .slice ga gn gc, .int .i64 m, .slice fa fn fc] #[.slice pa pn pc, .slice la ln lc, .int .i64 r, .slice ca cn cc] #[.int .i64 4, .int .u64 x, .int .i64 a, .int .i64 b] 25 35 98
  rw [← hW] at q1 q2 q3 q4
  have HBW := Lib.hid q4
  have HK : Hid (∀ w', Below W.heap.size W w' → (w'.cell? ⟨w.heap.size, 0, none⟩ = some (.bool u) ∧ w'.cell? ⟨w.heap.size, 1, none⟩ = some (.slice ga gn gc) ∧ w'.cell? ⟨w.heap.size, 2, none⟩ = some (.int .i64 m) ∧ w'.cell? ⟨w.heap.size, 3, none⟩ = some (.slice fa fn fc)) ∧ (w'.cell? ⟨w.heap.size + 1, 0, none⟩ = some (.slice pa pn pc) ∧ w'.cell? ⟨w.heap.size + 1, 1, none⟩ = some (.slice la ln lc) ∧ w'.cell? ⟨w.heap.size + 1, 2, none⟩ = some (.int .i64 r) ∧ w'.cell? ⟨w.heap.size + 1, 3, none⟩ = some (.slice ca cn cc)) ∧ (w'.cell? ⟨w.heap.size + 2, 0, none⟩ = some (.int .i64 4) ∧ w'.cell? ⟨w.heap.size + 2, 1, none⟩ = some (.int .u64 x) ∧ w'.cell? ⟨w.heap.size + 2, 2, none⟩ = some (.int .i64 a) ∧ w'.cell? ⟨w.heap.size + 2, 3, none⟩ = some (.int .i64 b) ∧ w.heap.size + 1 + 1 < w'.heap.size ∧ w.heap.size + 1 < w'.heap.size ∧ w.heap.size < w'.heap.size)) := Lib.hid (fun w' hb => by
    obtain ⟨y0, y1, y2, y3, _⟩ := blk4 (blk_below q1 hb)
    obtain ⟨z0, z1, z2, z3, _⟩ := blk4 (blk_below q2 hb)
    obtain ⟨x0, x1, x2, x3, _⟩ := blk4 (blk_below q3 hb)
    have hs1 := (blk_below q1 hb).1; have hs2 := (blk_below q2 hb).1; have hs3 := (blk_below q3 hb).1
    exact ⟨⟨y0, y1, y2, y3⟩, ⟨z0, z1, z2, z3⟩, x0, x1, x2, x3, hs3, hs2, hs1⟩)
  clear hW q1 q2 q3 q4
  obtain ⟨⟨y0, y1, y2, y3⟩, ⟨z0, z1, z2, z3⟩, x0, x1, x2, x3, s3, s2, s1⟩ := HK.out W (Below.refl _ _)
  go_wp2_with fail
  refine (rtable_any 4 (by decide) _).mono ?_
  rintro e w1 ⟨rfl, hb1⟩
  have HB1 := Lib.hid hb1
  clear y0 y1 y2 y3 z0 z1 z2 z3 x0 x1 x2 x3 s1 s2 s3 hb1
  obtain ⟨⟨y0, y1, y2, y3⟩, ⟨z0, z1, z2, z3⟩, x0, x1, x2, x3, s3, s2, s1⟩ := HK.out w1 HB1.out
  go_wp2_with fail
  refine (rlocal_any ⟨⟨pa, pn, pc⟩, ⟨la, ln, lc⟩, r, ⟨ca, cn, cc⟩⟩ f a _ (deepF_below HF.out (b_call HBW.out HB1.out)) HL1.out HL2.out).mono ?_
  rintro e w2 ⟨rfl, hb2⟩
  have HB2 := Lib.hid (b_call HB1.out hb2)
  clear hb2
  clear y0 y1 y2 y3 z0 z1 z2 z3 x0 x1 x2 x3 s1 s2 s3
  obtain ⟨⟨y0, y1, y2, y3⟩, ⟨z0, z1, z2, z3⟩, x0, x1, x2, x3, s3, s2, s1⟩ := HK.out w2 HB2.out
  rw [← HZE.out]
  rcases HZ.out with ⟨q1, q2, q3⟩ | ⟨q1, q2⟩
  · have Q1 := Lib.hid q1; have Q2 := Lib.hid q2
    clear q1 q2
    go_wp2_with fail
    go_ret3
    have D : Hid (ifNamed (inL (f.ps ++ f.ls) a) ⟨[], [atL (f.ps ++ f.ls) a], 0⟩ = ⟨[], [z], 0⟩) := Lib.hid (by rw [Q1.out, Q2.out]; rfl)
    show RetD w _ _ _
    rw [D.out]
    exact ⟨none, 0, _, _, rfl, readI_nil _, readI_lit [z] (by simp) (by simp), b_call HBW.out (b_alloc HB2.out _)⟩
  · have Q1 := Lib.hid q1
    clear q1
    subst q2
    go_wp2_with fail
    go_ret3
    have D : Hid (ifNamed (inL (f.ps ++ f.ls) a) ⟨[], [atL (f.ps ++ f.ls) a], 0⟩ = bad 5) := Lib.hid (by rw [Q1.out]; rfl)
    show RetD w _ _ _
    rw [D.out]
    exact ⟨none, 0, none, 0, rfl, readI_nil _, readI_nil _, b_call HBW.out HB2.out⟩
set_option maxRecDepth 100000 in
set_option maxHeartbeats 2000000 in
theorem rdeal5 (p : PrV) (P : PrM) (v : FnV) (f : FnM) (x a b : Int) (sa : Option Addr) (sc : Nat) (st : List Int) (w : World) (h : ReadP w p P) (hs : SmallP P) (hf : DeepF w v f) (h1 : f.ps.length ≤ 10) (h2 : f.ls.length ≤ 10) (hst : ReadI w (.slice sa st.length sc) st) (hl : st.length ≤ 100) (hk : ∀ y ∈ (f.ps ++ f.ls), 0 ≤ y) : Calls Try.prog 81 #[aggP p, aggF v, .agg #[.int .i64 5, .int .u64 x, .int .i64 a, .int .i64 b], .slice sa st.length sc] w (RetD w (ifNamed (inL (f.ps ++ f.ls) a) ⟨[atL (f.ps ++ f.ls) a], [], 0⟩)) := by
  obtain ⟨z, hz⟩ : ∃ z, z = kindL (f.ps ++ f.ls) a := ⟨_, rfl⟩
  have HZ : Hid ((inL (f.ps ++ f.ls) a = true ∧ z = atL (f.ps ++ f.ls) a ∧ 0 ≤ z) ∨ (inL (f.ps ++ f.ls) a = false ∧ z = -1)) := Lib.hid (by
    unfold kindL at hz
    cases q : inL (f.ps ++ f.ls) a
    · rw [q] at hz; exact Or.inr ⟨rfl, hz⟩
    · rw [q] at hz
      refine Or.inl ⟨rfl, hz, ?_⟩
      rw [hz]
      unfold inL at q
      rw [Bool.and_eq_true, decide_eq_true_iff, decide_eq_true_iff] at q
      unfold atL
      rw [if_pos rfl, List.getD_eq_getElem?_getD, List.getElem?_eq_getElem (by omega)]
      exact hk _ (List.getElem_mem _))
  have HZE := Lib.hid hz
  clear hz hk
  obtain ⟨u, ⟨ga, gn, gc⟩, m, ⟨fa, fn, fc⟩⟩ := p
  obtain ⟨⟨pa, pn, pc⟩, ⟨la, ln, lc⟩, r, ⟨ca, cn, cc⟩⟩ := v
  have HR := Lib.hid h; have HF := Lib.hid hf; have HST := Lib.hid hst; have HS := Lib.hid hs
  have HL1 := Lib.hid h1; have HL2 := Lib.hid h2
  obtain ⟨hq0, hsc, hsc2⟩ := int_len (s := ⟨sa, st.length, sc⟩) hst
  clear hq0
  simp only at hsc hsc2
  clear h hf hst hs h1 h2
  unfold aggP aggF Sl.v
  simp only
  go_enter Try.func81, Try.ntmps81
  go_upto_region 1 with fail
  refine wp_named ?_
  intro W hW
  obtain ⟨q1, q2, q3, q4⟩ := boxes3 w #[.bool u, .slice ga gn gc, .int .i64 m, .slice fa fn fc] #[.slice pa pn pc, .slice la ln lc, .int .i64 r, .slice ca cn cc] #[.int .i64 5, .int .u64 x, .int .i64 a, .int .i64 b] 25 35 98
  rw [← hW] at q1 q2 q3 q4
  have HBW := Lib.hid q4
  have HK : Hid (∀ w', Below W.heap.size W w' → (w'.cell? ⟨w.heap.size, 0, none⟩ = some (.bool u) ∧ w'.cell? ⟨w.heap.size, 1, none⟩ = some (.slice ga gn gc) ∧ w'.cell? ⟨w.heap.size, 2, none⟩ = some (.int .i64 m) ∧ w'.cell? ⟨w.heap.size, 3, none⟩ = some (.slice fa fn fc)) ∧ (w'.cell? ⟨w.heap.size + 1, 0, none⟩ = some (.slice pa pn pc) ∧ w'.cell? ⟨w.heap.size + 1, 1, none⟩ = some (.slice la ln lc) ∧ w'.cell? ⟨w.heap.size + 1, 2, none⟩ = some (.int .i64 r) ∧ w'.cell? ⟨w.heap.size + 1, 3, none⟩ = some (.slice ca cn cc)) ∧ (w'.cell? ⟨w.heap.size + 2, 0, none⟩ = some (.int .i64 5) ∧ w'.cell? ⟨w.heap.size + 2, 1, none⟩ = some (.int .u64 x) ∧ w'.cell? ⟨w.heap.size + 2, 2, none⟩ = some (.int .i64 a) ∧ w'.cell? ⟨w.heap.size + 2, 3, none⟩ = some (.int .i64 b) ∧ w.heap.size + 1 + 1 < w'.heap.size ∧ w.heap.size + 1 < w'.heap.size ∧ w.heap.size < w'.heap.size)) := Lib.hid (fun w' hb => by
    obtain ⟨y0, y1, y2, y3, _⟩ := blk4 (blk_below q1 hb)
    obtain ⟨z0, z1, z2, z3, _⟩ := blk4 (blk_below q2 hb)
    obtain ⟨x0, x1, x2, x3, _⟩ := blk4 (blk_below q3 hb)
    have hs1 := (blk_below q1 hb).1; have hs2 := (blk_below q2 hb).1; have hs3 := (blk_below q3 hb).1
    exact ⟨⟨y0, y1, y2, y3⟩, ⟨z0, z1, z2, z3⟩, x0, x1, x2, x3, hs3, hs2, hs1⟩)
  clear hW q1 q2 q3 q4
  obtain ⟨⟨y0, y1, y2, y3⟩, ⟨z0, z1, z2, z3⟩, x0, x1, x2, x3, s3, s2, s1⟩ := HK.out W (Below.refl _ _)
  go_wp2_with fail
  refine (rtable_any 5 (by decide) _).mono ?_
  rintro e w1 ⟨rfl, hb1⟩
  have HB1 := Lib.hid hb1
  clear y0 y1 y2 y3 z0 z1 z2 z3 x0 x1 x2 x3 s1 s2 s3 hb1
  obtain ⟨⟨y0, y1, y2, y3⟩, ⟨z0, z1, z2, z3⟩, x0, x1, x2, x3, s3, s2, s1⟩ := HK.out w1 HB1.out
  go_wp2_with fail
  refine (rlocal_any ⟨⟨pa, pn, pc⟩, ⟨la, ln, lc⟩, r, ⟨ca, cn, cc⟩⟩ f a _ (deepF_below HF.out (b_call HBW.out HB1.out)) HL1.out HL2.out).mono ?_
  rintro e w2 ⟨rfl, hb2⟩
  have HB2 := Lib.hid (b_call HB1.out hb2)
  clear hb2
  clear y0 y1 y2 y3 z0 z1 z2 z3 x0 x1 x2 x3 s1 s2 s3
  obtain ⟨⟨y0, y1, y2, y3⟩, ⟨z0, z1, z2, z3⟩, x0, x1, x2, x3, s3, s2, s1⟩ := HK.out w2 HB2.out
  rw [← HZE.out]
  rcases HZ.out with ⟨q1, q2, q3⟩ | ⟨q1, q2⟩
  · have Q1 := Lib.hid q1; have Q2 := Lib.hid q2
    clear q1 q2
    go_wp2_with fail
    go_ret3
    have D : Hid (ifNamed (inL (f.ps ++ f.ls) a) ⟨[atL (f.ps ++ f.ls) a], [], 0⟩ = ⟨[z], [], 0⟩) := Lib.hid (by rw [Q1.out, Q2.out]; rfl)
    show RetD w _ _ _
    rw [D.out]
    exact ⟨_, _, none, 0, rfl, readI_lit [z] (by simp) (by simp), readI_nil _, b_call HBW.out (b_alloc HB2.out _)⟩
  · have Q1 := Lib.hid q1
    clear q1
    subst q2
    go_wp2_with fail
    go_ret3
    have D : Hid (ifNamed (inL (f.ps ++ f.ls) a) ⟨[atL (f.ps ++ f.ls) a], [], 0⟩ = bad 5) := Lib.hid (by rw [Q1.out]; rfl)
    show RetD w _ _ _
    rw [D.out]
    exact ⟨none, 0, none, 0, rfl, readI_nil _, readI_nil _, b_call HBW.out HB2.out⟩
set_option maxRecDepth 100000 in
set_option maxHeartbeats 2000000 in
theorem rdeal6 (p : PrV) (P : PrM) (v : FnV) (f : FnM) (x a b : Int) (sa : Option Addr) (sc : Nat) (st : List Int) (w : World) (h : ReadP w p P) (hs : SmallP P) (hf : DeepF w v f) (h1 : f.ps.length ≤ 10) (h2 : f.ls.length ≤ 10) (hst : ReadI w (.slice sa st.length sc) st) (hl : st.length ≤ 100) (hk : ∀ y ∈ P.gl, 0 ≤ y) : Calls Try.prog 81 #[aggP p, aggF v, .agg #[.int .i64 6, .int .u64 x, .int .i64 a, .int .i64 b], .slice sa st.length sc] w (RetD w (ifNamed (inL P.gl a) ⟨[], [atL P.gl a], 0⟩)) := by
  obtain ⟨z, hz⟩ : ∃ z, z = kindL P.gl a := ⟨_, rfl⟩
  have HZ : Hid ((inL P.gl a = true ∧ z = atL P.gl a ∧ 0 ≤ z) ∨ (inL P.gl a = false ∧ z = -1)) := Lib.hid (by
    unfold kindL at hz
    cases q : inL P.gl a
    · rw [q] at hz; exact Or.inr ⟨rfl, hz⟩
    · rw [q] at hz
      refine Or.inl ⟨rfl, hz, ?_⟩
      rw [hz]
      unfold inL at q
      rw [Bool.and_eq_true, decide_eq_true_iff, decide_eq_true_iff] at q
      unfold atL
      rw [if_pos rfl, List.getD_eq_getElem?_getD, List.getElem?_eq_getElem (by omega)]
      exact hk _ (List.getElem_mem _))
  have HZE := Lib.hid hz
  clear hz hk
  obtain ⟨u, ⟨ga, gn, gc⟩, m, ⟨fa, fn, fc⟩⟩ := p
  obtain ⟨⟨pa, pn, pc⟩, ⟨la, ln, lc⟩, r, ⟨ca, cn, cc⟩⟩ := v
  have HR := Lib.hid h; have HF := Lib.hid hf; have HST := Lib.hid hst; have HS := Lib.hid hs
  have HL1 := Lib.hid h1; have HL2 := Lib.hid h2
  obtain ⟨hq0, hsc, hsc2⟩ := int_len (s := ⟨sa, st.length, sc⟩) hst
  clear hq0
  simp only at hsc hsc2
  clear h hf hst hs h1 h2
  unfold aggP aggF Sl.v
  simp only
  go_enter Try.func81, Try.ntmps81
  go_upto_region 1 with fail
  refine wp_named ?_
  intro W hW
  obtain ⟨q1, q2, q3, q4⟩ := boxes3 w #[.bool u, .slice ga gn gc, .int .i64 m, .slice fa fn fc] #[.slice pa pn pc, .slice la ln lc, .int .i64 r, .slice ca cn cc] #[.int .i64 6, .int .u64 x, .int .i64 a, .int .i64 b] 25 35 98
  rw [← hW] at q1 q2 q3 q4
  have HBW := Lib.hid q4
  have HK : Hid (∀ w', Below W.heap.size W w' → (w'.cell? ⟨w.heap.size, 0, none⟩ = some (.bool u) ∧ w'.cell? ⟨w.heap.size, 1, none⟩ = some (.slice ga gn gc) ∧ w'.cell? ⟨w.heap.size, 2, none⟩ = some (.int .i64 m) ∧ w'.cell? ⟨w.heap.size, 3, none⟩ = some (.slice fa fn fc)) ∧ (w'.cell? ⟨w.heap.size + 1, 0, none⟩ = some (.slice pa pn pc) ∧ w'.cell? ⟨w.heap.size + 1, 1, none⟩ = some (.slice la ln lc) ∧ w'.cell? ⟨w.heap.size + 1, 2, none⟩ = some (.int .i64 r) ∧ w'.cell? ⟨w.heap.size + 1, 3, none⟩ = some (.slice ca cn cc)) ∧ (w'.cell? ⟨w.heap.size + 2, 0, none⟩ = some (.int .i64 6) ∧ w'.cell? ⟨w.heap.size + 2, 1, none⟩ = some (.int .u64 x) ∧ w'.cell? ⟨w.heap.size + 2, 2, none⟩ = some (.int .i64 a) ∧ w'.cell? ⟨w.heap.size + 2, 3, none⟩ = some (.int .i64 b) ∧ w.heap.size + 1 + 1 < w'.heap.size ∧ w.heap.size + 1 < w'.heap.size ∧ w.heap.size < w'.heap.size)) := Lib.hid (fun w' hb => by
    obtain ⟨y0, y1, y2, y3, _⟩ := blk4 (blk_below q1 hb)
    obtain ⟨z0, z1, z2, z3, _⟩ := blk4 (blk_below q2 hb)
    obtain ⟨x0, x1, x2, x3, _⟩ := blk4 (blk_below q3 hb)
    have hs1 := (blk_below q1 hb).1; have hs2 := (blk_below q2 hb).1; have hs3 := (blk_below q3 hb).1
    exact ⟨⟨y0, y1, y2, y3⟩, ⟨z0, z1, z2, z3⟩, x0, x1, x2, x3, hs3, hs2, hs1⟩)
  clear hW q1 q2 q3 q4
  obtain ⟨⟨y0, y1, y2, y3⟩, ⟨z0, z1, z2, z3⟩, x0, x1, x2, x3, s3, s2, s1⟩ := HK.out W (Below.refl _ _)
  go_wp2_with fail
  refine (rtable_any 6 (by decide) _).mono ?_
  rintro e w1 ⟨rfl, hb1⟩
  have HB1 := Lib.hid hb1
  clear y0 y1 y2 y3 z0 z1 z2 z3 x0 x1 x2 x3 s1 s2 s3 hb1
  obtain ⟨⟨y0, y1, y2, y3⟩, ⟨z0, z1, z2, z3⟩, x0, x1, x2, x3, s3, s2, s1⟩ := HK.out w1 HB1.out
  go_wp2_with fail
  refine (rlocal_any ⟨⟨pa, pn, pc⟩, ⟨la, ln, lc⟩, r, ⟨ca, cn, cc⟩⟩ f a _ (deepF_below HF.out (b_call HBW.out HB1.out)) HL1.out HL2.out).mono ?_
  rintro e w2 ⟨rfl, hb2⟩
  have HB2 := Lib.hid (b_call HB1.out hb2)
  clear hb2
  clear y0 y1 y2 y3 z0 z1 z2 z3 x0 x1 x2 x3 s1 s2 s3
  obtain ⟨⟨y0, y1, y2, y3⟩, ⟨z0, z1, z2, z3⟩, x0, x1, x2, x3, s3, s2, s1⟩ := HK.out w2 HB2.out
  go_wp2_with fail
  refine (rlocal_any ⟨⟨ga, gn, gc⟩, ⟨none, 0, 0⟩, 0, ⟨none, 0, 0⟩⟩ ⟨P.gl, [], 0, []⟩ a _ ⟨readI_below HR.out.g (b_call HBW.out HB2.out), readI_nil _, rfl, readR_nil _⟩ HS.out.g (by simp)).mono ?_
  rintro e w3 ⟨rfl, hb3⟩
  have HB3 := Lib.hid (b_call HB2.out hb3)
  clear hb3
  simp only [List.append_nil]
  rw [← HZE.out]
  clear y0 y1 y2 y3 z0 z1 z2 z3 x0 x1 x2 x3 s1 s2 s3
  obtain ⟨⟨y0, y1, y2, y3⟩, ⟨z0, z1, z2, z3⟩, x0, x1, x2, x3, s3, s2, s1⟩ := HK.out w3 HB3.out
  rcases HZ.out with ⟨q1, q2, q3⟩ | ⟨q1, q2⟩
  · have Q1 := Lib.hid q1; have Q2 := Lib.hid q2
    clear q1 q2
    go_wp2_with fail
    go_ret3
    have D : Hid (ifNamed (inL P.gl a) ⟨[], [atL P.gl a], 0⟩ = ⟨[], [z], 0⟩) := Lib.hid (by rw [Q1.out, Q2.out]; rfl)
    show RetD w _ _ _
    rw [D.out]
    exact ⟨none, 0, _, _, rfl, readI_nil _, readI_lit [z] (by simp) (by simp), b_call HBW.out (b_alloc HB3.out _)⟩
  · have Q1 := Lib.hid q1
    clear q1
    subst q2
    go_wp2_with fail
    go_ret3
    have D : Hid (ifNamed (inL P.gl a) ⟨[], [atL P.gl a], 0⟩ = bad 5) := Lib.hid (by rw [Q1.out]; rfl)
    show RetD w _ _ _
    rw [D.out]
    exact ⟨none, 0, none, 0, rfl, readI_nil _, readI_nil _, b_call HBW.out HB3.out⟩
set_option maxRecDepth 100000 in
set_option maxHeartbeats 2000000 in
theorem rdeal7 (p : PrV) (P : PrM) (v : FnV) (f : FnM) (x a b : Int) (sa : Option Addr) (sc : Nat) (st : List Int) (w : World) (h : ReadP w p P) (hs : SmallP P) (hf : DeepF w v f) (h1 : f.ps.length ≤ 10) (h2 : f.ls.length ≤ 10) (hst : ReadI w (.slice sa st.length sc) st) (hl : st.length ≤ 100) (hk : ∀ y ∈ P.gl, 0 ≤ y) : Calls Try.prog 81 #[aggP p, aggF v, .agg #[.int .i64 7, .int .u64 x, .int .i64 a, .int .i64 b], .slice sa st.length sc] w (RetD w (ifNamed (inL P.gl a) ⟨[atL P.gl a], [], 0⟩)) := by
  obtain ⟨z, hz⟩ : ∃ z, z = kindL P.gl a := ⟨_, rfl⟩
  have HZ : Hid ((inL P.gl a = true ∧ z = atL P.gl a ∧ 0 ≤ z) ∨ (inL P.gl a = false ∧ z = -1)) := Lib.hid (by
    unfold kindL at hz
    cases q : inL P.gl a
    · rw [q] at hz; exact Or.inr ⟨rfl, hz⟩
    · rw [q] at hz
      refine Or.inl ⟨rfl, hz, ?_⟩
      rw [hz]
      unfold inL at q
      rw [Bool.and_eq_true, decide_eq_true_iff, decide_eq_true_iff] at q
      unfold atL
      rw [if_pos rfl, List.getD_eq_getElem?_getD, List.getElem?_eq_getElem (by omega)]
      exact hk _ (List.getElem_mem _))
  have HZE := Lib.hid hz
  clear hz hk
  obtain ⟨u, ⟨ga, gn, gc⟩, m, ⟨fa, fn, fc⟩⟩ := p
  obtain ⟨⟨pa, pn, pc⟩, ⟨la, ln, lc⟩, r, ⟨ca, cn, cc⟩⟩ := v
  have HR := Lib.hid h; have HF := Lib.hid hf; have HST := Lib.hid hst; have HS := Lib.hid hs
  have HL1 := Lib.hid h1; have HL2 := Lib.hid h2
  obtain ⟨hq0, hsc, hsc2⟩ := int_len (s := ⟨sa, st.length, sc⟩) hst
  clear hq0
  simp only at hsc hsc2
  clear h hf hst hs h1 h2
  unfold aggP aggF Sl.v
  simp only
  go_enter Try.func81, Try.ntmps81
  go_upto_region 1 with fail
  refine wp_named ?_
  intro W hW
  obtain ⟨q1, q2, q3, q4⟩ := boxes3 w #[.bool u, .slice ga gn gc, .int .i64 m, .slice fa fn fc] #[.slice pa pn pc, .slice la ln lc, .int .i64 r, .slice ca cn cc] #[.int .i64 7, .int .u64 x, .int .i64 a, .int .i64 b] 25 35 98
  rw [← hW] at q1 q2 q3 q4
  have HBW := Lib.hid q4
  have HK : Hid (∀ w', Below W.heap.size W w' → (w'.cell? ⟨w.heap.size, 0, none⟩ = some (.bool u) ∧ w'.cell? ⟨w.heap.size, 1, none⟩ = some (.slice ga gn gc) ∧ w'.cell? ⟨w.heap.size, 2, none⟩ = some (.int .i64 m) ∧ w'.cell? ⟨w.heap.size, 3, none⟩ = some (.slice fa fn fc)) ∧ (w'.cell? ⟨w.heap.size + 1, 0, none⟩ = some (.slice pa pn pc) ∧ w'.cell? ⟨w.heap.size + 1, 1, none⟩ = some (.slice la ln lc) ∧ w'.cell? ⟨w.heap.size + 1, 2, none⟩ = some (.int .i64 r) ∧ w'.cell? ⟨w.heap.size + 1, 3, none⟩ = some (.slice ca cn cc)) ∧ (w'.cell? ⟨w.heap.size + 2, 0, none⟩ = some (.int .i64 7) ∧ w'.cell? ⟨w.heap.size + 2, 1, none⟩ = some (.int .u64 x) ∧ w'.cell? ⟨w.heap.size + 2, 2, none⟩ = some (.int .i64 a) ∧ w'.cell? ⟨w.heap.size + 2, 3, none⟩ = some (.int .i64 b) ∧ w.heap.size + 1 + 1 < w'.heap.size ∧ w.heap.size + 1 < w'.heap.size ∧ w.heap.size < w'.heap.size)) := Lib.hid (fun w' hb => by
    obtain ⟨y0, y1, y2, y3, _⟩ := blk4 (blk_below q1 hb)
    obtain ⟨z0, z1, z2, z3, _⟩ := blk4 (blk_below q2 hb)
    obtain ⟨x0, x1, x2, x3, _⟩ := blk4 (blk_below q3 hb)
    have hs1 := (blk_below q1 hb).1; have hs2 := (blk_below q2 hb).1; have hs3 := (blk_below q3 hb).1
    exact ⟨⟨y0, y1, y2, y3⟩, ⟨z0, z1, z2, z3⟩, x0, x1, x2, x3, hs3, hs2, hs1⟩)
  clear hW q1 q2 q3 q4
  obtain ⟨⟨y0, y1, y2, y3⟩, ⟨z0, z1, z2, z3⟩, x0, x1, x2, x3, s3, s2, s1⟩ := HK.out W (Below.refl _ _)
  go_wp2_with fail
  refine (rtable_any 7 (by decide) _).mono ?_
  rintro e w1 ⟨rfl, hb1⟩
  have HB1 := Lib.hid hb1
  clear y0 y1 y2 y3 z0 z1 z2 z3 x0 x1 x2 x3 s1 s2 s3 hb1
  obtain ⟨⟨y0, y1, y2, y3⟩, ⟨z0, z1, z2, z3⟩, x0, x1, x2, x3, s3, s2, s1⟩ := HK.out w1 HB1.out
  go_wp2_with fail
  refine (rlocal_any ⟨⟨pa, pn, pc⟩, ⟨la, ln, lc⟩, r, ⟨ca, cn, cc⟩⟩ f a _ (deepF_below HF.out (b_call HBW.out HB1.out)) HL1.out HL2.out).mono ?_
  rintro e w2 ⟨rfl, hb2⟩
  have HB2 := Lib.hid (b_call HB1.out hb2)
  clear hb2
  clear y0 y1 y2 y3 z0 z1 z2 z3 x0 x1 x2 x3 s1 s2 s3
  obtain ⟨⟨y0, y1, y2, y3⟩, ⟨z0, z1, z2, z3⟩, x0, x1, x2, x3, s3, s2, s1⟩ := HK.out w2 HB2.out
  go_wp2_with fail
  refine (rlocal_any ⟨⟨ga, gn, gc⟩, ⟨none, 0, 0⟩, 0, ⟨none, 0, 0⟩⟩ ⟨P.gl, [], 0, []⟩ a _ ⟨readI_below HR.out.g (b_call HBW.out HB2.out), readI_nil _, rfl, readR_nil _⟩ HS.out.g (by simp)).mono ?_
  rintro e w3 ⟨rfl, hb3⟩
  have HB3 := Lib.hid (b_call HB2.out hb3)
  clear hb3
  simp only [List.append_nil]
  rw [← HZE.out]
  clear y0 y1 y2 y3 z0 z1 z2 z3 x0 x1 x2 x3 s1 s2 s3
  obtain ⟨⟨y0, y1, y2, y3⟩, ⟨z0, z1, z2, z3⟩, x0, x1, x2, x3, s3, s2, s1⟩ := HK.out w3 HB3.out
  rcases HZ.out with ⟨q1, q2, q3⟩ | ⟨q1, q2⟩
  · have Q1 := Lib.hid q1; have Q2 := Lib.hid q2
    clear q1 q2
    go_wp2_with fail
    go_ret3
    have D : Hid (ifNamed (inL P.gl a) ⟨[atL P.gl a], [], 0⟩ = ⟨[z], [], 0⟩) := Lib.hid (by rw [Q1.out, Q2.out]; rfl)
    show RetD w _ _ _
    rw [D.out]
    exact ⟨_, _, none, 0, rfl, readI_lit [z] (by simp) (by simp), readI_nil _, b_call HBW.out (b_alloc HB3.out _)⟩
  · have Q1 := Lib.hid q1
    clear q1
    subst q2
    go_wp2_with fail
    go_ret3
    have D : Hid (ifNamed (inL P.gl a) ⟨[atL P.gl a], [], 0⟩ = bad 5) := Lib.hid (by rw [Q1.out]; rfl)
    show RetD w _ _ _
    rw [D.out]
    exact ⟨none, 0, none, 0, rfl, readI_nil _, readI_nil _, b_call HBW.out HB3.out⟩
set_option maxRecDepth 100000 in
set_option maxHeartbeats 2000000 in
theorem rdeal_plain (p : PrV) (P : PrM) (v : FnV) (f : FnM) (op : Nat) (x a b : Int) (sa : Option Addr) (sc : Nat) (st : List Int) (w : World) (h : ReadP w p P) (hs : SmallP P) (hf : DeepF w v f) (h1 : f.ps.length ≤ 10) (h2 : f.ls.length ≤ 10) (hst : ReadI w (.slice sa st.length sc) st) (hl : st.length ≤ 100) (hop : op < 37) (hno : op ∉ [4, 5, 6, 7, 8, 9, 10, 11, 14, 15, 17, 28, 31, 32, 36]) : Calls Try.prog 81 #[aggP p, aggF v, .agg #[.int .i64 op, .int .u64 x, .int .i64 a, .int .i64 b], .slice sa st.length sc] w (RetD w (⟨takesT op, putsT op, 0⟩)) := by
  have n4 : ((op : Int) == 4) = false := by rw [beq_eq_false_iff_ne]; intro e; exact hno (by rw [show op = 4 by omega]; decide)
  have n5 : ((op : Int) == 5) = false := by rw [beq_eq_false_iff_ne]; intro e; exact hno (by rw [show op = 5 by omega]; decide)
  have n6 : ((op : Int) == 6) = false := by rw [beq_eq_false_iff_ne]; intro e; exact hno (by rw [show op = 6 by omega]; decide)
  have n7 : ((op : Int) == 7) = false := by rw [beq_eq_false_iff_ne]; intro e; exact hno (by rw [show op = 7 by omega]; decide)
  have n8 : ((op : Int) == 8) = false := by rw [beq_eq_false_iff_ne]; intro e; exact hno (by rw [show op = 8 by omega]; decide)
  have n9 : ((op : Int) == 9) = false := by rw [beq_eq_false_iff_ne]; intro e; exact hno (by rw [show op = 9 by omega]; decide)
  have n10 : ((op : Int) == 10) = false := by rw [beq_eq_false_iff_ne]; intro e; exact hno (by rw [show op = 10 by omega]; decide)
  have n11 : ((op : Int) == 11) = false := by rw [beq_eq_false_iff_ne]; intro e; exact hno (by rw [show op = 11 by omega]; decide)
  have n14 : ((op : Int) == 14) = false := by rw [beq_eq_false_iff_ne]; intro e; exact hno (by rw [show op = 14 by omega]; decide)
  have n15 : ((op : Int) == 15) = false := by rw [beq_eq_false_iff_ne]; intro e; exact hno (by rw [show op = 15 by omega]; decide)
  have n17 : ((op : Int) == 17) = false := by rw [beq_eq_false_iff_ne]; intro e; exact hno (by rw [show op = 17 by omega]; decide)
  have n28 : ((op : Int) == 28) = false := by rw [beq_eq_false_iff_ne]; intro e; exact hno (by rw [show op = 28 by omega]; decide)
  have n31 : ((op : Int) == 31) = false := by rw [beq_eq_false_iff_ne]; intro e; exact hno (by rw [show op = 31 by omega]; decide)
  have n32 : ((op : Int) == 32) = false := by rw [beq_eq_false_iff_ne]; intro e; exact hno (by rw [show op = 32 by omega]; decide)
  have n36 : ((op : Int) == 36) = false := by rw [beq_eq_false_iff_ne]; intro e; exact hno (by rw [show op = 36 by omega]; decide)
  clear hno
  obtain ⟨u, ⟨ga, gn, gc⟩, m, ⟨fa, fn, fc⟩⟩ := p
  obtain ⟨⟨pa, pn, pc⟩, ⟨la, ln, lc⟩, r, ⟨ca, cn, cc⟩⟩ := v
  have HR := Lib.hid h; have HF := Lib.hid hf; have HST := Lib.hid hst; have HS := Lib.hid hs
  have HL1 := Lib.hid h1; have HL2 := Lib.hid h2
  obtain ⟨hq0, hsc, hsc2⟩ := int_len (s := ⟨sa, st.length, sc⟩) hst
  clear hq0
  simp only at hsc hsc2
  clear h hf hst hs h1 h2
  unfold aggP aggF Sl.v
  simp only
  go_enter Try.func81, Try.ntmps81
  go_upto_region 1 with fail
  refine wp_named ?_
  intro W hW
  obtain ⟨q1, q2, q3, q4⟩ := boxes3 w #[.bool u, .slice ga gn gc, .int .i64 m, .slice fa fn fc] #[.slice pa pn pc, .slice la ln lc, .int .i64 r, .slice ca cn cc] #[.int .i64 op, .int .u64 x, .int .i64 a, .int .i64 b] 25 35 98
  rw [← hW] at q1 q2 q3 q4
  have HBW := Lib.hid q4
  have HK : Hid (∀ w', Below W.heap.size W w' → (w'.cell? ⟨w.heap.size, 0, none⟩ = some (.bool u) ∧ w'.cell? ⟨w.heap.size, 1, none⟩ = some (.slice ga gn gc) ∧ w'.cell? ⟨w.heap.size, 2, none⟩ = some (.int .i64 m) ∧ w'.cell? ⟨w.heap.size, 3, none⟩ = some (.slice fa fn fc)) ∧ (w'.cell? ⟨w.heap.size + 1, 0, none⟩ = some (.slice pa pn pc) ∧ w'.cell? ⟨w.heap.size + 1, 1, none⟩ = some (.slice la ln lc) ∧ w'.cell? ⟨w.heap.size + 1, 2, none⟩ = some (.int .i64 r) ∧ w'.cell? ⟨w.heap.size + 1, 3, none⟩ = some (.slice ca cn cc)) ∧ (w'.cell? ⟨w.heap.size + 2, 0, none⟩ = some (.int .i64 op) ∧ w'.cell? ⟨w.heap.size + 2, 1, none⟩ = some (.int .u64 x) ∧ w'.cell? ⟨w.heap.size + 2, 2, none⟩ = some (.int .i64 a) ∧ w'.cell? ⟨w.heap.size + 2, 3, none⟩ = some (.int .i64 b) ∧ w.heap.size + 1 + 1 < w'.heap.size ∧ w.heap.size + 1 < w'.heap.size ∧ w.heap.size < w'.heap.size)) := Lib.hid (fun w' hb => by
    obtain ⟨y0, y1, y2, y3, _⟩ := blk4 (blk_below q1 hb)
    obtain ⟨z0, z1, z2, z3, _⟩ := blk4 (blk_below q2 hb)
    obtain ⟨x0, x1, x2, x3, _⟩ := blk4 (blk_below q3 hb)
    have hs1 := (blk_below q1 hb).1; have hs2 := (blk_below q2 hb).1; have hs3 := (blk_below q3 hb).1
    exact ⟨⟨y0, y1, y2, y3⟩, ⟨z0, z1, z2, z3⟩, x0, x1, x2, x3, hs3, hs2, hs1⟩)
  clear hW q1 q2 q3 q4
  obtain ⟨⟨y0, y1, y2, y3⟩, ⟨z0, z1, z2, z3⟩, x0, x1, x2, x3, s3, s2, s1⟩ := HK.out W (Below.refl _ _)
  go_wp2_with fail
  refine (rtable_any op hop _).mono ?_
  rintro e w1 ⟨rfl, hb1⟩
  have HB1 := Lib.hid hb1
  clear y0 y1 y2 y3 z0 z1 z2 z3 x0 x1 x2 x3 s1 s2 s3 hb1
  obtain ⟨⟨y0, y1, y2, y3⟩, ⟨z0, z1, z2, z3⟩, x0, x1, x2, x3, s3, s2, s1⟩ := HK.out w1 HB1.out
  go_wp2_with fail
  refine (rkindsA op hop _).mono ?_
  rintro e w8 ⟨a8, c8, rfl, hr8, hb8⟩
  have HR8 := Lib.hid hr8
  have HB8 := Lib.hid (b_call HB1.out hb8)
  clear hr8 hb8
  go_wp2_with fail
  refine (rkindsB op hop _).mono ?_
  rintro e w9 ⟨a9, c9, rfl, hr9, hb9⟩
  have HR9 := Lib.hid hr9
  have HB9 := Lib.hid (b_call HB8.out hb9)
  have HR89 := Lib.hid (readI_below HR8.out hb9)
  clear hr9 hb9
  go_wp2_with fail
  go_ret3
  exact ⟨a8, c8, a9, c9, rfl, HR89.out, HR9.out, b_call HBW.out HB9.out⟩
end
section
open Go.RowKit
set_option linter.unusedVariables false
set_option linter.unusedSimpArgs false
attribute [local go_sem] over_cell over_frozen
set_option maxRecDepth 100000 in
set_option maxHeartbeats 2000000 in
theorem rdeal8 (p : PrV) (P : PrM) (v : FnV) (f : FnM) (x a b : Int) (sa : Option Addr) (sc : Nat) (st : List Int) (w : World) (h : ReadP w p P) (hs : SmallP P) (hf : DeepF w v f) (h1 : f.ps.length ≤ 10) (h2 : f.ls.length ≤ 10) (hst : ReadI w (.slice sa st.length sc) st) (hl : st.length ≤ 100) : Calls Try.prog 81 #[aggP p, aggF v, .agg #[.int .i64 8, .int .u64 x, .int .i64 a, .int .i64 b], .slice sa st.length sc] w (RetD w (if st.length = 0 then bad 2 else ⟨[topL st], [], 0⟩)) := by
  obtain ⟨N, hN⟩ : ∃ N, N = st.length := ⟨_, rfl⟩
  rw [← hN] at hst hl ⊢
  by_cases h0 : N = 0
  · subst h0
    rw [if_pos rfl]
    have HN := Lib.hid hN
    clear hN
    obtain ⟨u, ⟨ga, gn, gc⟩, m, ⟨fa, fn, fc⟩⟩ := p
    obtain ⟨⟨pa, pn, pc⟩, ⟨la, ln, lc⟩, r, ⟨ca, cn, cc⟩⟩ := v
    have HR := Lib.hid h; have HF := Lib.hid hf; have HST := Lib.hid hst; have HS := Lib.hid hs
    have HL1 := Lib.hid h1; have HL2 := Lib.hid h2
    obtain ⟨hq0, hsc, hsc2⟩ := int_len (s := ⟨sa, 0, sc⟩) hst
    clear hq0
    simp only at hsc hsc2
    clear h hf hst hs h1 h2
    unfold aggP aggF Sl.v
    simp only
    go_enter Try.func81, Try.ntmps81
    go_upto_region 1 with fail
    refine wp_named ?_
    intro W hW
    obtain ⟨q1, q2, q3, q4⟩ := boxes3 w #[.bool u, .slice ga gn gc, .int .i64 m, .slice fa fn fc] #[.slice pa pn pc, .slice la ln lc, .int .i64 r, .slice ca cn cc] #[.int .i64 8, .int .u64 x, .int .i64 a, .int .i64 b] 25 35 98
    rw [← hW] at q1 q2 q3 q4
    have HBW := Lib.hid q4
    have HK : Hid (∀ w', Below W.heap.size W w' → (w'.cell? ⟨w.heap.size, 0, none⟩ = some (.bool u) ∧ w'.cell? ⟨w.heap.size, 1, none⟩ = some (.slice ga gn gc) ∧ w'.cell? ⟨w.heap.size, 2, none⟩ = some (.int .i64 m) ∧ w'.cell? ⟨w.heap.size, 3, none⟩ = some (.slice fa fn fc)) ∧ (w'.cell? ⟨w.heap.size + 1, 0, none⟩ = some (.slice pa pn pc) ∧ w'.cell? ⟨w.heap.size + 1, 1, none⟩ = some (.slice la ln lc) ∧ w'.cell? ⟨w.heap.size + 1, 2, none⟩ = some (.int .i64 r) ∧ w'.cell? ⟨w.heap.size + 1, 3, none⟩ = some (.slice ca cn cc)) ∧ (w'.cell? ⟨w.heap.size + 2, 0, none⟩ = some (.int .i64 8) ∧ w'.cell? ⟨w.heap.size + 2, 1, none⟩ = some (.int .u64 x) ∧ w'.cell? ⟨w.heap.size + 2, 2, none⟩ = some (.int .i64 a) ∧ w'.cell? ⟨w.heap.size + 2, 3, none⟩ = some (.int .i64 b) ∧ w.heap.size + 1 + 1 < w'.heap.size ∧ w.heap.size + 1 < w'.heap.size ∧ w.heap.size < w'.heap.size)) := Lib.hid (fun w' hb => by
      obtain ⟨y0, y1, y2, y3, _⟩ := blk4 (blk_below q1 hb)
      obtain ⟨z0, z1, z2, z3, _⟩ := blk4 (blk_below q2 hb)
      obtain ⟨x0, x1, x2, x3, _⟩ := blk4 (blk_below q3 hb)
      have hs1 := (blk_below q1 hb).1; have hs2 := (blk_below q2 hb).1; have hs3 := (blk_below q3 hb).1
      exact ⟨⟨y0, y1, y2, y3⟩, ⟨z0, z1, z2, z3⟩, x0, x1, x2, x3, hs3, hs2, hs1⟩)
    clear hW q1 q2 q3 q4
    obtain ⟨⟨y0, y1, y2, y3⟩, ⟨z0, z1, z2, z3⟩, x0, x1, x2, x3, s3, s2, s1⟩ := HK.out W (Below.refl _ _)
    go_wp2_with fail
    refine (rtable_any 8 (by decide) _).mono ?_
    rintro e w1 ⟨rfl, hb1⟩
    have HB1 := Lib.hid hb1
    clear y0 y1 y2 y3 z0 z1 z2 z3 x0 x1 x2 x3 s1 s2 s3 hb1
    obtain ⟨⟨y0, y1, y2, y3⟩, ⟨z0, z1, z2, z3⟩, x0, x1, x2, x3, s3, s2, s1⟩ := HK.out w1 HB1.out
    go_wp2_with fail
    go_ret3
    exact ⟨none, 0, none, 0, rfl, readI_nil _, readI_nil _, b_call HBW.out HB1.out⟩
  · rw [if_neg h0]
    obtain ⟨n, rfl⟩ : ∃ n, N = n + 1 := ⟨N - 1, by omega⟩
    obtain ⟨bb, oo, ea, hlt, hcell⟩ := int_at (s := ⟨sa, n + 1, sc⟩) hst (k := n) (by omega)
    simp only at ea
    subst ea
    have hz : topL st = st.getD n 0 := by unfold topL; rw [← hN]; rfl
    rw [← hz] at hcell
    generalize topL st = z at *
    have HCL := Lib.hid hcell
    have HN := Lib.hid hN
    clear hcell hz h0 hN
    obtain ⟨u, ⟨ga, gn, gc⟩, m, ⟨fa, fn, fc⟩⟩ := p
    obtain ⟨⟨pa, pn, pc⟩, ⟨la, ln, lc⟩, r, ⟨ca, cn, cc⟩⟩ := v
    have HR := Lib.hid h; have HF := Lib.hid hf; have HST := Lib.hid hst; have HS := Lib.hid hs
    have HL1 := Lib.hid h1; have HL2 := Lib.hid h2
    obtain ⟨hq0, hsc, hsc2⟩ := int_len (s := ⟨some ⟨bb, oo, none⟩, n + 1, sc⟩) hst
    clear hq0
    simp only at hsc hsc2
    rw [← HN.out] at hsc
    clear h hf hst hs h1 h2
    unfold aggP aggF Sl.v
    simp only
    go_enter Try.func81, Try.ntmps81
    go_upto_region 1 with fail
    refine wp_named ?_
    intro W hW
    obtain ⟨q1, q2, q3, q4⟩ := boxes3 w #[.bool u, .slice ga gn gc, .int .i64 m, .slice fa fn fc] #[.slice pa pn pc, .slice la ln lc, .int .i64 r, .slice ca cn cc] #[.int .i64 8, .int .u64 x, .int .i64 a, .int .i64 b] 25 35 98
    rw [← hW] at q1 q2 q3 q4
    have HBW := Lib.hid q4
    have HK : Hid (∀ w', Below W.heap.size W w' → (w'.cell? ⟨w.heap.size, 0, none⟩ = some (.bool u) ∧ w'.cell? ⟨w.heap.size, 1, none⟩ = some (.slice ga gn gc) ∧ w'.cell? ⟨w.heap.size, 2, none⟩ = some (.int .i64 m) ∧ w'.cell? ⟨w.heap.size, 3, none⟩ = some (.slice fa fn fc)) ∧ (w'.cell? ⟨w.heap.size + 1, 0, none⟩ = some (.slice pa pn pc) ∧ w'.cell? ⟨w.heap.size + 1, 1, none⟩ = some (.slice la ln lc) ∧ w'.cell? ⟨w.heap.size + 1, 2, none⟩ = some (.int .i64 r) ∧ w'.cell? ⟨w.heap.size + 1, 3, none⟩ = some (.slice ca cn cc)) ∧ (w'.cell? ⟨w.heap.size + 2, 0, none⟩ = some (.int .i64 8) ∧ w'.cell? ⟨w.heap.size + 2, 1, none⟩ = some (.int .u64 x) ∧ w'.cell? ⟨w.heap.size + 2, 2, none⟩ = some (.int .i64 a) ∧ w'.cell? ⟨w.heap.size + 2, 3, none⟩ = some (.int .i64 b) ∧ w.heap.size + 1 + 1 < w'.heap.size ∧ w.heap.size + 1 < w'.heap.size ∧ w.heap.size < w'.heap.size)) := Lib.hid (fun w' hb => by
      obtain ⟨y0, y1, y2, y3, _⟩ := blk4 (blk_below q1 hb)
      obtain ⟨z0, z1, z2, z3, _⟩ := blk4 (blk_below q2 hb)
      obtain ⟨x0, x1, x2, x3, _⟩ := blk4 (blk_below q3 hb)
      have hs1 := (blk_below q1 hb).1; have hs2 := (blk_below q2 hb).1; have hs3 := (blk_below q3 hb).1
      exact ⟨⟨y0, y1, y2, y3⟩, ⟨z0, z1, z2, z3⟩, x0, x1, x2, x3, hs3, hs2, hs1⟩)
    clear hW q1 q2 q3 q4
    obtain ⟨⟨y0, y1, y2, y3⟩, ⟨z0, z1, z2, z3⟩, x0, x1, x2, x3, s3, s2, s1⟩ := HK.out W (Below.refl _ _)
    go_wp2_with fail
    refine (rtable_any 8 (by decide) _).mono ?_
    rintro e w1 ⟨rfl, hb1⟩
    have HB1 := Lib.hid hb1
    clear y0 y1 y2 y3 z0 z1 z2 z3 x0 x1 x2 x3 s1 s2 s3 hb1
    obtain ⟨⟨y0, y1, y2, y3⟩, ⟨z0, z1, z2, z3⟩, x0, x1, x2, x3, s3, s2, s1⟩ := HK.out w1 HB1.out
    have hc1 : w1.cell? ⟨bb, oo + n, none⟩ = some (.int .i64 z) := ((bcell (b_call HBW.out HB1.out)).1 _ _ hlt).trans HCL.out
    have hbl : bb < w1.heap.size := by have := HBW.out.size; have := HB1.out.size; omega
    have n0 : (0 : Int) ≤ n := by omega
    have nb : (n : Int) + 1 ≤ 100 := by omega
    go_wp2_with fail
    go_ret3
    exact ⟨_, _, none, 0, rfl, readI_lit [z] (by simp) (by simp), readI_nil _, b_call HBW.out (b_alloc HB1.out _)⟩
set_option maxRecDepth 100000 in
set_option maxHeartbeats 2000000 in
theorem rdeal9 (p : PrV) (P : PrM) (v : FnV) (f : FnM) (x a b : Int) (sa : Option Addr) (sc : Nat) (st : List Int) (w : World) (h : ReadP w p P) (hs : SmallP P) (hf : DeepF w v f) (h1 : f.ps.length ≤ 10) (h2 : f.ls.length ≤ 10) (hst : ReadI w (.slice sa st.length sc) st) (hl : st.length ≤ 100) : Calls Try.prog 81 #[aggP p, aggF v, .agg #[.int .i64 9, .int .u64 x, .int .i64 a, .int .i64 b], .slice sa st.length sc] w (RetD w (if st.length = 0 then bad 2 else ⟨[topL st], [topL st, topL st], 0⟩)) := by
  obtain ⟨N, hN⟩ : ∃ N, N = st.length := ⟨_, rfl⟩
  rw [← hN] at hst hl ⊢
  by_cases h0 : N = 0
  · subst h0
    rw [if_pos rfl]
    have HN := Lib.hid hN
    clear hN
    obtain ⟨u, ⟨ga, gn, gc⟩, m, ⟨fa, fn, fc⟩⟩ := p
    obtain ⟨⟨pa, pn, pc⟩, ⟨la, ln, lc⟩, r, ⟨ca, cn, cc⟩⟩ := v
    have HR := Lib.hid h; have HF := Lib.hid hf; have HST := Lib.hid hst; have HS := Lib.hid hs
    have HL1 := Lib.hid h1; have HL2 := Lib.hid h2
    obtain ⟨hq0, hsc, hsc2⟩ := int_len (s := ⟨sa, 0, sc⟩) hst
    clear hq0
    simp only at hsc hsc2
    clear h hf hst hs h1 h2
    unfold aggP aggF Sl.v
    simp only
    go_enter Try.func81, Try.ntmps81
    go_upto_region 1 with fail
    refine wp_named ?_
    intro W hW
    obtain ⟨q1, q2, q3, q4⟩ := boxes3 w #[.bool u, .slice ga gn gc, .int .i64 m, .slice fa fn fc] #[.slice pa pn pc, .slice la ln lc, .int .i64 r, .slice ca cn cc] #[.int .i64 9, .int .u64 x, .int .i64 a, .int .i64 b] 25 35 98
    rw [← hW] at q1 q2 q3 q4
    have HBW := Lib.hid q4
    have HK : Hid (∀ w', Below W.heap.size W w' → (w'.cell? ⟨w.heap.size, 0, none⟩ = some (.bool u) ∧ w'.cell? ⟨w.heap.size, 1, none⟩ = some (.slice ga gn gc) ∧ w'.cell? ⟨w.heap.size, 2, none⟩ = some (.int .i64 m) ∧ w'.cell? ⟨w.heap.size, 3, none⟩ = some (.slice fa fn fc)) ∧ (w'.cell? ⟨w.heap.size + 1, 0, none⟩ = some (.slice pa pn pc) ∧ w'.cell? ⟨w.heap.size + 1, 1, none⟩ = some (.slice la ln lc) ∧ w'.cell? ⟨w.heap.size + 1, 2, none⟩ = some (.int .i64 r) ∧ w'.cell? ⟨w.heap.size + 1, 3, none⟩ = some (.slice ca cn cc)) ∧ (w'.cell? ⟨w.heap.size + 2, 0, none⟩ = some (.int .i64 9) ∧ w'.cell? ⟨w.heap.size + 2, 1, none⟩ = some (.int .u64 x) ∧ w'.cell? ⟨w.heap.size + 2, 2, none⟩ = some (.int .i64 a) ∧ w'.cell? ⟨w.heap.size + 2, 3, none⟩ = some (.int .i64 b) ∧ w.heap.size + 1 + 1 < w'.heap.size ∧ w.heap.size + 1 < w'.heap.size ∧ w.heap.size < w'.heap.size)) := Lib.hid (fun w' hb => by
      obtain ⟨y0, y1, y2, y3, _⟩ := blk4 (blk_below q1 hb)
      obtain ⟨z0, z1, z2, z3, _⟩ := blk4 (blk_below q2 hb)
      obtain ⟨x0, x1, x2, x3, _⟩ := blk4 (blk_below q3 hb)
      have hs1 := (blk_below q1 hb).1; have hs2 := (blk_below q2 hb).1; have hs3 := (blk_below q3 hb).1
      exact ⟨⟨y0, y1, y2, y3⟩, ⟨z0, z1, z2, z3⟩, x0, x1, x2, x3, hs3, hs2, hs1⟩)
    clear hW q1 q2 q3 q4
    obtain ⟨⟨y0, y1, y2, y3⟩, ⟨z0, z1, z2, z3⟩, x0, x1, x2, x3, s3, s2, s1⟩ := HK.out W (Below.refl _ _)
    go_wp2_with fail
    refine (rtable_any 9 (by decide) _).mono ?_
    rintro e w1 ⟨rfl, hb1⟩
    have HB1 := Lib.hid hb1
    clear y0 y1 y2 y3 z0 z1 z2 z3 x0 x1 x2 x3 s1 s2 s3 hb1
    obtain ⟨⟨y0, y1, y2, y3⟩, ⟨z0, z1, z2, z3⟩, x0, x1, x2, x3, s3, s2, s1⟩ := HK.out w1 HB1.out
    go_wp2_with fail
    go_ret3
    exact ⟨none, 0, none, 0, rfl, readI_nil _, readI_nil _, b_call HBW.out HB1.out⟩
  · rw [if_neg h0]
    obtain ⟨n, rfl⟩ : ∃ n, N = n + 1 := ⟨N - 1, by omega⟩
    obtain ⟨bb, oo, ea, hlt, hcell⟩ := int_at (s := ⟨sa, n + 1, sc⟩) hst (k := n) (by omega)
    simp only at ea
    subst ea
    have hz : topL st = st.getD n 0 := by unfold topL; rw [← hN]; rfl
    rw [← hz] at hcell
    generalize topL st = z at *
    have HCL := Lib.hid hcell
    have HN := Lib.hid hN
    clear hcell hz h0 hN
    obtain ⟨u, ⟨ga, gn, gc⟩, m, ⟨fa, fn, fc⟩⟩ := p
    obtain ⟨⟨pa, pn, pc⟩, ⟨la, ln, lc⟩, r, ⟨ca, cn, cc⟩⟩ := v
    have HR := Lib.hid h; have HF := Lib.hid hf; have HST := Lib.hid hst; have HS := Lib.hid hs
    have HL1 := Lib.hid h1; have HL2 := Lib.hid h2
    obtain ⟨hq0, hsc, hsc2⟩ := int_len (s := ⟨some ⟨bb, oo, none⟩, n + 1, sc⟩) hst
    clear hq0
    simp only at hsc hsc2
    rw [← HN.out] at hsc
    clear h hf hst hs h1 h2
    unfold aggP aggF Sl.v
    simp only
    go_enter Try.func81, Try.ntmps81
    go_upto_region 1 with fail
    refine wp_named ?_
    intro W hW
    obtain ⟨q1, q2, q3, q4⟩ := boxes3 w #[.bool u, .slice ga gn gc, .int .i64 m, .slice fa fn fc] #[.slice pa pn pc, .slice la ln lc, .int .i64 r, .slice ca cn cc] #[.int .i64 9, .int .u64 x, .int .i64 a, .int .i64 b] 25 35 98
    rw [← hW] at q1 q2 q3 q4
    have HBW := Lib.hid q4
    have HK : Hid (∀ w', Below W.heap.size W w' → (w'.cell? ⟨w.heap.size, 0, none⟩ = some (.bool u) ∧ w'.cell? ⟨w.heap.size, 1, none⟩ = some (.slice ga gn gc) ∧ w'.cell? ⟨w.heap.size, 2, none⟩ = some (.int .i64 m) ∧ w'.cell? ⟨w.heap.size, 3, none⟩ = some (.slice fa fn fc)) ∧ (w'.cell? ⟨w.heap.size + 1, 0, none⟩ = some (.slice pa pn pc) ∧ w'.cell? ⟨w.heap.size + 1, 1, none⟩ = some (.slice la ln lc) ∧ w'.cell? ⟨w.heap.size + 1, 2, none⟩ = some (.int .i64 r) ∧ w'.cell? ⟨w.heap.size + 1, 3, none⟩ = some (.slice ca cn cc)) ∧ (w'.cell? ⟨w.heap.size + 2, 0, none⟩ = some (.int .i64 9) ∧ w'.cell? ⟨w.heap.size + 2, 1, none⟩ = some (.int .u64 x) ∧ w'.cell? ⟨w.heap.size + 2, 2, none⟩ = some (.int .i64 a) ∧ w'.cell? ⟨w.heap.size + 2, 3, none⟩ = some (.int .i64 b) ∧ w.heap.size + 1 + 1 < w'.heap.size ∧ w.heap.size + 1 < w'.heap.size ∧ w.heap.size < w'.heap.size)) := Lib.hid (fun w' hb => by
      obtain ⟨y0, y1, y2, y3, _⟩ := blk4 (blk_below q1 hb)
      obtain ⟨z0, z1, z2, z3, _⟩ := blk4 (blk_below q2 hb)
      obtain ⟨x0, x1, x2, x3, _⟩ := blk4 (blk_below q3 hb)
      have hs1 := (blk_below q1 hb).1; have hs2 := (blk_below q2 hb).1; have hs3 := (blk_below q3 hb).1
      exact ⟨⟨y0, y1, y2, y3⟩, ⟨z0, z1, z2, z3⟩, x0, x1, x2, x3, hs3, hs2, hs1⟩)
    clear hW q1 q2 q3 q4
    obtain ⟨⟨y0, y1, y2, y3⟩, ⟨z0, z1, z2, z3⟩, x0, x1, x2, x3, s3, s2, s1⟩ := HK.out W (Below.refl _ _)
    go_wp2_with fail
    refine (rtable_any 9 (by decide) _).mono ?_
    rintro e w1 ⟨rfl, hb1⟩
    have HB1 := Lib.hid hb1
    clear y0 y1 y2 y3 z0 z1 z2 z3 x0 x1 x2 x3 s1 s2 s3 hb1
    obtain ⟨⟨y0, y1, y2, y3⟩, ⟨z0, z1, z2, z3⟩, x0, x1, x2, x3, s3, s2, s1⟩ := HK.out w1 HB1.out
    have hc1 : w1.cell? ⟨bb, oo + n, none⟩ = some (.int .i64 z) := ((bcell (b_call HBW.out HB1.out)).1 _ _ hlt).trans HCL.out
    have hbl : bb < w1.heap.size := by have := HBW.out.size; have := HB1.out.size; omega
    have n0 : (0 : Int) ≤ n := by omega
    have nb : (n : Int) + 1 ≤ 100 := by omega
    go_wp2_with fail
    go_ret3
    exact ⟨_, _, _, _, rfl, readI_below (readI_lit [z] (by simp) (by simp)) (b_alloc (Below.refl _ _) _), readI_lit [z, z] (by simp) (by simp), b_call HBW.out (b_alloc (b_alloc HB1.out _) _)⟩
set_option maxRecDepth 100000 in
set_option maxHeartbeats 2000000 in
theorem rdeal10 (p : PrV) (P : PrM) (v : FnV) (f : FnM) (x a b : Int) (sa : Option Addr) (sc : Nat) (st : List Int) (w : World) (h : ReadP w p P) (hs : SmallP P) (hf : DeepF w v f) (h1 : f.ps.length ≤ 10) (h2 : f.ls.length ≤ 10) (hst : ReadI w (.slice sa st.length sc) st) (hl : st.length ≤ 100) : Calls Try.prog 81 #[aggP p, aggF v, .agg #[.int .i64 10, .int .u64 x, .int .i64 a, .int .i64 b], .slice sa st.length sc] w (RetD w (ifNamed (decide (0 ≤ utO a)) ⟨[utO a], [ugO a], 0⟩)) := by
  obtain ⟨u, ⟨ga, gn, gc⟩, m, ⟨fa, fn, fc⟩⟩ := p
  obtain ⟨⟨pa, pn, pc⟩, ⟨la, ln, lc⟩, r, ⟨ca, cn, cc⟩⟩ := v
  have HR := Lib.hid h; have HF := Lib.hid hf; have HST := Lib.hid hst; have HS := Lib.hid hs
  have HL1 := Lib.hid h1; have HL2 := Lib.hid h2
  obtain ⟨hq0, hsc, hsc2⟩ := int_len (s := ⟨sa, st.length, sc⟩) hst
  clear hq0
  simp only at hsc hsc2
  clear h hf hst hs h1 h2
  unfold aggP aggF Sl.v
  simp only
  go_enter Try.func81, Try.ntmps81
  go_upto_region 1 with fail
  refine wp_named ?_
  intro W hW
  obtain ⟨q1, q2, q3, q4⟩ := boxes3 w #[.bool u, .slice ga gn gc, .int .i64 m, .slice fa fn fc] #[.slice pa pn pc, .slice la ln lc, .int .i64 r, .slice ca cn cc] #[.int .i64 10, .int .u64 x, .int .i64 a, .int .i64 b] 25 35 98
  rw [← hW] at q1 q2 q3 q4
  have HBW := Lib.hid q4
  have HK : Hid (∀ w', Below W.heap.size W w' → (w'.cell? ⟨w.heap.size, 0, none⟩ = some (.bool u) ∧ w'.cell? ⟨w.heap.size, 1, none⟩ = some (.slice ga gn gc) ∧ w'.cell? ⟨w.heap.size, 2, none⟩ = some (.int .i64 m) ∧ w'.cell? ⟨w.heap.size, 3, none⟩ = some (.slice fa fn fc)) ∧ (w'.cell? ⟨w.heap.size + 1, 0, none⟩ = some (.slice pa pn pc) ∧ w'.cell? ⟨w.heap.size + 1, 1, none⟩ = some (.slice la ln lc) ∧ w'.cell? ⟨w.heap.size + 1, 2, none⟩ = some (.int .i64 r) ∧ w'.cell? ⟨w.heap.size + 1, 3, none⟩ = some (.slice ca cn cc)) ∧ (w'.cell? ⟨w.heap.size + 2, 0, none⟩ = some (.int .i64 10) ∧ w'.cell? ⟨w.heap.size + 2, 1, none⟩ = some (.int .u64 x) ∧ w'.cell? ⟨w.heap.size + 2, 2, none⟩ = some (.int .i64 a) ∧ w'.cell? ⟨w.heap.size + 2, 3, none⟩ = some (.int .i64 b) ∧ w.heap.size + 1 + 1 < w'.heap.size ∧ w.heap.size + 1 < w'.heap.size ∧ w.heap.size < w'.heap.size)) := Lib.hid (fun w' hb => by
    obtain ⟨y0, y1, y2, y3, _⟩ := blk4 (blk_below q1 hb)
    obtain ⟨z0, z1, z2, z3, _⟩ := blk4 (blk_below q2 hb)
    obtain ⟨x0, x1, x2, x3, _⟩ := blk4 (blk_below q3 hb)
    have hs1 := (blk_below q1 hb).1; have hs2 := (blk_below q2 hb).1; have hs3 := (blk_below q3 hb).1
    exact ⟨⟨y0, y1, y2, y3⟩, ⟨z0, z1, z2, z3⟩, x0, x1, x2, x3, hs3, hs2, hs1⟩)
  clear hW q1 q2 q3 q4
  obtain ⟨⟨y0, y1, y2, y3⟩, ⟨z0, z1, z2, z3⟩, x0, x1, x2, x3, s3, s2, s1⟩ := HK.out W (Below.refl _ _)
  go_wp2_with fail
  refine (rtable_any 10 (by decide) _).mono ?_
  rintro e w1 ⟨rfl, hb1⟩
  have HB1 := Lib.hid hb1
  clear y0 y1 y2 y3 z0 z1 z2 z3 x0 x1 x2 x3 s1 s2 s3 hb1
  obtain ⟨⟨y0, y1, y2, y3⟩, ⟨z0, z1, z2, z3⟩, x0, x1, x2, x3, s3, s2, s1⟩ := HK.out w1 HB1.out
  have HT2 := Lib.hid (utakes_any a)
  have HG2 := Lib.hid (ugives_any a)
  generalize utO a = z at *
  generalize ugO a = g at *
  go_wp2_with fail
  refine (HT2.out _).mono ?_
  rintro e w2 ⟨rfl, hb2⟩
  have HB2 := Lib.hid (b_call HB1.out hb2)
  clear hb2
  clear y0 y1 y2 y3 z0 z1 z2 z3 x0 x1 x2 x3 s1 s2 s3
  obtain ⟨⟨y0, y1, y2, y3⟩, ⟨z0, z1, z2, z3⟩, x0, x1, x2, x3, s3, s2, s1⟩ := HK.out w2 HB2.out
  by_cases hz : 0 ≤ z
  · have D : Hid (ifNamed (decide (0 ≤ z)) ⟨[z], [g], 0⟩ = ⟨[z], [g], 0⟩) := Lib.hid (by rw [decide_eq_true hz]; rfl)
    have hz3 : ¬ (z < 0) := by omega
    go_wp2_with fail
    refine (HG2.out _).mono ?_
    rintro e w4 ⟨rfl, hb4⟩
    have HB4 := Lib.hid (b_call (b_alloc HB2.out (.cells #[.int .i64 z] 3)) hb4)
    have HL4 : Hid (ReadI w4 (.slice (some ⟨w2.heap.size, 0, none⟩) 1 1) [z]) := Lib.hid (readI_below (readI_lit [z] rfl (by simp)) hb4)
    clear hb4
    go_wp2_with fail
    go_ret3
    show RetD w _ _ _
    rw [D.out]
    exact ⟨_, _, _, _, rfl, readI_below HL4.out (b_alloc (Below.refl _ _) _), readI_lit [g] (by simp) (by simp), b_call HBW.out (b_alloc HB4.out _)⟩
  · have D : Hid (ifNamed (decide (0 ≤ z)) ⟨[z], [g], 0⟩ = bad 5) := Lib.hid (by rw [decide_eq_false hz]; rfl)
    have hz2 : z < 0 := by omega
    clear hz
    go_wp2_with fail
    go_ret3
    show RetD w _ _ _
    rw [D.out]
    exact ⟨none, 0, none, 0, rfl, readI_nil _, readI_nil _, b_call HBW.out HB2.out⟩
set_option maxRecDepth 100000 in
set_option maxHeartbeats 2000000 in
theorem rdeal11 (p : PrV) (P : PrM) (v : FnV) (f : FnM) (x a b : Int) (sa : Option Addr) (sc : Nat) (st : List Int) (w : World) (h : ReadP w p P) (hs : SmallP P) (hf : DeepF w v f) (h1 : f.ps.length ≤ 10) (h2 : f.ls.length ≤ 10) (hst : ReadI w (.slice sa st.length sc) st) (hl : st.length ≤ 100) : Calls Try.prog 81 #[aggP p, aggF v, .agg #[.int .i64 11, .int .u64 x, .int .i64 a, .int .i64 b], .slice sa st.length sc] w (RetD w (ifNamed (decide (0 ≤ takesO a)) ⟨[takesO a, takesO a], [givesO a], 0⟩)) := by
  obtain ⟨u, ⟨ga, gn, gc⟩, m, ⟨fa, fn, fc⟩⟩ := p
  obtain ⟨⟨pa, pn, pc⟩, ⟨la, ln, lc⟩, r, ⟨ca, cn, cc⟩⟩ := v
  have HR := Lib.hid h; have HF := Lib.hid hf; have HST := Lib.hid hst; have HS := Lib.hid hs
  have HL1 := Lib.hid h1; have HL2 := Lib.hid h2
  obtain ⟨hq0, hsc, hsc2⟩ := int_len (s := ⟨sa, st.length, sc⟩) hst
  clear hq0
  simp only at hsc hsc2
  clear h hf hst hs h1 h2
  unfold aggP aggF Sl.v
  simp only
  go_enter Try.func81, Try.ntmps81
  go_upto_region 1 with fail
  refine wp_named ?_
  intro W hW
  obtain ⟨q1, q2, q3, q4⟩ := boxes3 w #[.bool u, .slice ga gn gc, .int .i64 m, .slice fa fn fc] #[.slice pa pn pc, .slice la ln lc, .int .i64 r, .slice ca cn cc] #[.int .i64 11, .int .u64 x, .int .i64 a, .int .i64 b] 25 35 98
  rw [← hW] at q1 q2 q3 q4
  have HBW := Lib.hid q4
  have HK : Hid (∀ w', Below W.heap.size W w' → (w'.cell? ⟨w.heap.size, 0, none⟩ = some (.bool u) ∧ w'.cell? ⟨w.heap.size, 1, none⟩ = some (.slice ga gn gc) ∧ w'.cell? ⟨w.heap.size, 2, none⟩ = some (.int .i64 m) ∧ w'.cell? ⟨w.heap.size, 3, none⟩ = some (.slice fa fn fc)) ∧ (w'.cell? ⟨w.heap.size + 1, 0, none⟩ = some (.slice pa pn pc) ∧ w'.cell? ⟨w.heap.size + 1, 1, none⟩ = some (.slice la ln lc) ∧ w'.cell? ⟨w.heap.size + 1, 2, none⟩ = some (.int .i64 r) ∧ w'.cell? ⟨w.heap.size + 1, 3, none⟩ = some (.slice ca cn cc)) ∧ (w'.cell? ⟨w.heap.size + 2, 0, none⟩ = some (.int .i64 11) ∧ w'.cell? ⟨w.heap.size + 2, 1, none⟩ = some (.int .u64 x) ∧ w'.cell? ⟨w.heap.size + 2, 2, none⟩ = some (.int .i64 a) ∧ w'.cell? ⟨w.heap.size + 2, 3, none⟩ = some (.int .i64 b) ∧ w.heap.size + 1 + 1 < w'.heap.size ∧ w.heap.size + 1 < w'.heap.size ∧ w.heap.size < w'.heap.size)) := Lib.hid (fun w' hb => by
    obtain ⟨y0, y1, y2, y3, _⟩ := blk4 (blk_below q1 hb)
    obtain ⟨z0, z1, z2, z3, _⟩ := blk4 (blk_below q2 hb)
    obtain ⟨x0, x1, x2, x3, _⟩ := blk4 (blk_below q3 hb)
    have hs1 := (blk_below q1 hb).1; have hs2 := (blk_below q2 hb).1; have hs3 := (blk_below q3 hb).1
    exact ⟨⟨y0, y1, y2, y3⟩, ⟨z0, z1, z2, z3⟩, x0, x1, x2, x3, hs3, hs2, hs1⟩)
  clear hW q1 q2 q3 q4
  obtain ⟨⟨y0, y1, y2, y3⟩, ⟨z0, z1, z2, z3⟩, x0, x1, x2, x3, s3, s2, s1⟩ := HK.out W (Below.refl _ _)
  go_wp2_with fail
  refine (rtable_any 11 (by decide) _).mono ?_
  rintro e w1 ⟨rfl, hb1⟩
  have HB1 := Lib.hid hb1
  clear y0 y1 y2 y3 z0 z1 z2 z3 x0 x1 x2 x3 s1 s2 s3 hb1
  obtain ⟨⟨y0, y1, y2, y3⟩, ⟨z0, z1, z2, z3⟩, x0, x1, x2, x3, s3, s2, s1⟩ := HK.out w1 HB1.out
  have HT2 := Lib.hid (takes_any a)
  have HG2 := Lib.hid (gives_any a)
  generalize takesO a = z at *
  generalize givesO a = g at *
  go_wp2_with fail
  refine (HT2.out _).mono ?_
  rintro e w2 ⟨rfl, hw2⟩
  have HB2 : Hid (Below W.heap.size W w2) := by subst hw2; exact HB1
  clear hw2
  clear y0 y1 y2 y3 z0 z1 z2 z3 x0 x1 x2 x3 s1 s2 s3
  obtain ⟨⟨y0, y1, y2, y3⟩, ⟨z0, z1, z2, z3⟩, x0, x1, x2, x3, s3, s2, s1⟩ := HK.out w2 HB2.out
  by_cases hz : 0 ≤ z
  · have D : Hid (ifNamed (decide (0 ≤ z)) ⟨[z, z], [g], 0⟩ = ⟨[z, z], [g], 0⟩) := Lib.hid (by rw [decide_eq_true hz]; rfl)
    have hz3 : ¬ (z < 0) := by omega
    go_wp2_with fail
    refine (HG2.out _).mono ?_
    rintro e w4 ⟨rfl, hw4⟩
    subst hw4
    go_wp2_with fail
    go_ret3
    show RetD w _ _ _
    rw [D.out]
    exact ⟨_, _, _, _, rfl, readI_below (readI_lit [z, z] (by simp) (by simp)) (b_alloc (Below.refl _ _) _), readI_lit [g] (by simp) (by simp), b_call HBW.out (b_alloc (b_alloc HB2.out _) _)⟩
  · have D : Hid (ifNamed (decide (0 ≤ z)) ⟨[z, z], [g], 0⟩ = bad 5) := Lib.hid (by rw [decide_eq_false hz]; rfl)
    have hz2 : z < 0 := by omega
    clear hz
    go_wp2_with fail
    go_ret3
    show RetD w _ _ _
    rw [D.out]
    exact ⟨none, 0, none, 0, rfl, readI_nil _, readI_nil _, b_call HBW.out HB2.out⟩
set_option maxRecDepth 100000 in
set_option maxHeartbeats 2000000 in
theorem rdeal14 (p : PrV) (P : PrM) (v : FnV) (f : FnM) (x a b : Int) (sa : Option Addr) (sc : Nat) (st : List Int) (w : World) (h : ReadP w p P) (hs : SmallP P) (hf : DeepF w v f) (h1 : f.ps.length ≤ 10) (h2 : f.ls.length ≤ 10) (hst : ReadI w (.slice sa st.length sc) st) (hl : st.length ≤ 100) (ha : 0 ≤ a) : Calls Try.prog 81 #[aggP p, aggF v, .agg #[.int .i64 14, .int .u64 x, .int .i64 a, .int .i64 b], .slice sa st.length sc] w (RetD w (ifNamed (inFs P a) ⟨(fnAtM P a).ps, [(fnAtM P a).r], 0⟩)) := by
  obtain ⟨D, hD⟩ : ∃ D, D = ifNamed (inFs P a) ⟨(fnAtM P a).ps, [(fnAtM P a).r], 0⟩ := ⟨_, rfl⟩
  have HD := Lib.hid hD
  rw [← hD]
  clear hD
  obtain ⟨u, ⟨ga, gn, gc⟩, m, ⟨fa, fn, fc⟩⟩ := p
  obtain ⟨⟨pa, pn, pc⟩, ⟨la, ln, lc⟩, r, ⟨ca, cn, cc⟩⟩ := v
  have HR := Lib.hid h; have HF := Lib.hid hf; have HST := Lib.hid hst; have HS := Lib.hid hs
  have HL1 := Lib.hid h1; have HL2 := Lib.hid h2
  obtain ⟨hq0, hsc, hsc2⟩ := int_len (s := ⟨sa, st.length, sc⟩) hst
  clear hq0
  simp only at hsc hsc2
  clear h hf hst hs h1 h2
  unfold aggP aggF Sl.v
  simp only
  go_enter Try.func81, Try.ntmps81
  go_upto_region 1 with fail
  refine wp_named ?_
  intro W hW
  obtain ⟨q1, q2, q3, q4⟩ := boxes3 w #[.bool u, .slice ga gn gc, .int .i64 m, .slice fa fn fc] #[.slice pa pn pc, .slice la ln lc, .int .i64 r, .slice ca cn cc] #[.int .i64 14, .int .u64 x, .int .i64 a, .int .i64 b] 25 35 98
  rw [← hW] at q1 q2 q3 q4
  have HBW := Lib.hid q4
  have HK : Hid (∀ w', Below W.heap.size W w' → (w'.cell? ⟨w.heap.size, 0, none⟩ = some (.bool u) ∧ w'.cell? ⟨w.heap.size, 1, none⟩ = some (.slice ga gn gc) ∧ w'.cell? ⟨w.heap.size, 2, none⟩ = some (.int .i64 m) ∧ w'.cell? ⟨w.heap.size, 3, none⟩ = some (.slice fa fn fc)) ∧ (w'.cell? ⟨w.heap.size + 1, 0, none⟩ = some (.slice pa pn pc) ∧ w'.cell? ⟨w.heap.size + 1, 1, none⟩ = some (.slice la ln lc) ∧ w'.cell? ⟨w.heap.size + 1, 2, none⟩ = some (.int .i64 r) ∧ w'.cell? ⟨w.heap.size + 1, 3, none⟩ = some (.slice ca cn cc)) ∧ (w'.cell? ⟨w.heap.size + 2, 0, none⟩ = some (.int .i64 14) ∧ w'.cell? ⟨w.heap.size + 2, 1, none⟩ = some (.int .u64 x) ∧ w'.cell? ⟨w.heap.size + 2, 2, none⟩ = some (.int .i64 a) ∧ w'.cell? ⟨w.heap.size + 2, 3, none⟩ = some (.int .i64 b) ∧ w.heap.size + 1 + 1 < w'.heap.size ∧ w.heap.size + 1 < w'.heap.size ∧ w.heap.size < w'.heap.size)) := Lib.hid (fun w' hb => by
    obtain ⟨y0, y1, y2, y3, _⟩ := blk4 (blk_below q1 hb)
    obtain ⟨z0, z1, z2, z3, _⟩ := blk4 (blk_below q2 hb)
    obtain ⟨x0, x1, x2, x3, _⟩ := blk4 (blk_below q3 hb)
    have hs1 := (blk_below q1 hb).1; have hs2 := (blk_below q2 hb).1; have hs3 := (blk_below q3 hb).1
    exact ⟨⟨y0, y1, y2, y3⟩, ⟨z0, z1, z2, z3⟩, x0, x1, x2, x3, hs3, hs2, hs1⟩)
  clear hW q1 q2 q3 q4
  obtain ⟨⟨y0, y1, y2, y3⟩, ⟨z0, z1, z2, z3⟩, x0, x1, x2, x3, s3, s2, s1⟩ := HK.out W (Below.refl _ _)
  go_wp2_with fail
  refine (rtable_any 14 (by decide) _).mono ?_
  rintro e w1 ⟨rfl, hb1⟩
  have HB1 := Lib.hid hb1
  clear y0 y1 y2 y3 z0 z1 z2 z3 x0 x1 x2 x3 s1 s2 s3 hb1
  obtain ⟨⟨y0, y1, y2, y3⟩, ⟨z0, z1, z2, z3⟩, x0, x1, x2, x3, s3, s2, s1⟩ := HK.out w1 HB1.out
  go_wp2_with fail
  refine (rnamed14 ⟨u, ⟨ga, gn, gc⟩, m, ⟨fa, fn, fc⟩⟩ P x a b _ (readP_below HR.out (b_call HBW.out HB1.out)) HS.out ha).mono ?_
  rw [← HD.out]
  rintro e w2 ⟨a8, c8, a9, c9, rfl, hr8, hr9, hb2⟩
  have HR8 := Lib.hid hr8; have HR9 := Lib.hid hr9; have HB2 := Lib.hid (b_call HB1.out hb2)
  clear hr8 hr9 hb2
  go_wp2_with fail
  go_ret3
  exact ⟨a8, c8, a9, c9, rfl, HR8.out, HR9.out, b_call HBW.out HB2.out⟩
set_option maxRecDepth 100000 in
set_option maxHeartbeats 2000000 in
theorem rdeal28 (p : PrV) (P : PrM) (v : FnV) (f : FnM) (x a b : Int) (sa : Option Addr) (sc : Nat) (st : List Int) (w : World) (h : ReadP w p P) (hs : SmallP P) (hf : DeepF w v f) (h1 : f.ps.length ≤ 10) (h2 : f.ls.length ≤ 10) (hst : ReadI w (.slice sa st.length sc) st) (hl : st.length ≤ 100) (ha : 0 ≤ a) : Calls Try.prog 81 #[aggP p, aggF v, .agg #[.int .i64 28, .int .u64 x, .int .i64 a, .int .i64 b], .slice sa st.length sc] w (RetD w (ifNamed (inFs P a) (if (fnAtM P a).ps = [0] ∧ (fnAtM P a).r = 0 then ⟨[0], [0], 0⟩ else bad 7))) := by
  obtain ⟨D, hD⟩ : ∃ D, D = ifNamed (inFs P a) (if (fnAtM P a).ps = [0] ∧ (fnAtM P a).r = 0 then ⟨[0], [0], 0⟩ else bad 7) := ⟨_, rfl⟩
  have HD := Lib.hid hD
  rw [← hD]
  clear hD
  obtain ⟨u, ⟨ga, gn, gc⟩, m, ⟨fa, fn, fc⟩⟩ := p
  obtain ⟨⟨pa, pn, pc⟩, ⟨la, ln, lc⟩, r, ⟨ca, cn, cc⟩⟩ := v
  have HR := Lib.hid h; have HF := Lib.hid hf; have HST := Lib.hid hst; have HS := Lib.hid hs
  have HL1 := Lib.hid h1; have HL2 := Lib.hid h2
  obtain ⟨hq0, hsc, hsc2⟩ := int_len (s := ⟨sa, st.length, sc⟩) hst
  clear hq0
  simp only at hsc hsc2
  clear h hf hst hs h1 h2
  unfold aggP aggF Sl.v
  simp only
  go_enter Try.func81, Try.ntmps81
  go_upto_region 1 with fail
  refine wp_named ?_
  intro W hW
  obtain ⟨q1, q2, q3, q4⟩ := boxes3 w #[.bool u, .slice ga gn gc, .int .i64 m, .slice fa fn fc] #[.slice pa pn pc, .slice la ln lc, .int .i64 r, .slice ca cn cc] #[.int .i64 28, .int .u64 x, .int .i64 a, .int .i64 b] 25 35 98
  rw [← hW] at q1 q2 q3 q4
  have HBW := Lib.hid q4
  have HK : Hid (∀ w', Below W.heap.size W w' → (w'.cell? ⟨w.heap.size, 0, none⟩ = some (.bool u) ∧ w'.cell? ⟨w.heap.size, 1, none⟩ = some (.slice ga gn gc) ∧ w'.cell? ⟨w.heap.size, 2, none⟩ = some (.int .i64 m) ∧ w'.cell? ⟨w.heap.size, 3, none⟩ = some (.slice fa fn fc)) ∧ (w'.cell? ⟨w.heap.size + 1, 0, none⟩ = some (.slice pa pn pc) ∧ w'.cell? ⟨w.heap.size + 1, 1, none⟩ = some (.slice la ln lc) ∧ w'.cell? ⟨w.heap.size + 1, 2, none⟩ = some (.int .i64 r) ∧ w'.cell? ⟨w.heap.size + 1, 3, none⟩ = some (.slice ca cn cc)) ∧ (w'.cell? ⟨w.heap.size + 2, 0, none⟩ = some (.int .i64 28) ∧ w'.cell? ⟨w.heap.size + 2, 1, none⟩ = some (.int .u64 x) ∧ w'.cell? ⟨w.heap.size + 2, 2, none⟩ = some (.int .i64 a) ∧ w'.cell? ⟨w.heap.size + 2, 3, none⟩ = some (.int .i64 b) ∧ w.heap.size + 1 + 1 < w'.heap.size ∧ w.heap.size + 1 < w'.heap.size ∧ w.heap.size < w'.heap.size)) := Lib.hid (fun w' hb => by
    obtain ⟨y0, y1, y2, y3, _⟩ := blk4 (blk_below q1 hb)
    obtain ⟨z0, z1, z2, z3, _⟩ := blk4 (blk_below q2 hb)
    obtain ⟨x0, x1, x2, x3, _⟩ := blk4 (blk_below q3 hb)
    have hs1 := (blk_below q1 hb).1; have hs2 := (blk_below q2 hb).1; have hs3 := (blk_below q3 hb).1
    exact ⟨⟨y0, y1, y2, y3⟩, ⟨z0, z1, z2, z3⟩, x0, x1, x2, x3, hs3, hs2, hs1⟩)
  clear hW q1 q2 q3 q4
  obtain ⟨⟨y0, y1, y2, y3⟩, ⟨z0, z1, z2, z3⟩, x0, x1, x2, x3, s3, s2, s1⟩ := HK.out W (Below.refl _ _)
  go_wp2_with fail
  refine (rtable_any 28 (by decide) _).mono ?_
  rintro e w1 ⟨rfl, hb1⟩
  have HB1 := Lib.hid hb1
  clear y0 y1 y2 y3 z0 z1 z2 z3 x0 x1 x2 x3 s1 s2 s3 hb1
  obtain ⟨⟨y0, y1, y2, y3⟩, ⟨z0, z1, z2, z3⟩, x0, x1, x2, x3, s3, s2, s1⟩ := HK.out w1 HB1.out
  go_wp2_with fail
  refine (rnamed28 ⟨u, ⟨ga, gn, gc⟩, m, ⟨fa, fn, fc⟩⟩ P x a b _ (readP_below HR.out (b_call HBW.out HB1.out)) HS.out ha).mono ?_
  rw [← HD.out]
  rintro e w2 ⟨a8, c8, a9, c9, rfl, hr8, hr9, hb2⟩
  have HR8 := Lib.hid hr8; have HR9 := Lib.hid hr9; have HB2 := Lib.hid (b_call HB1.out hb2)
  clear hr8 hr9 hb2
  go_wp2_with fail
  go_ret3
  exact ⟨a8, c8, a9, c9, rfl, HR8.out, HR9.out, b_call HBW.out HB2.out⟩
end
end Go.Proofs.Ytdmidnmciaediaa
