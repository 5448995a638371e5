/- Chapter 34's example, and the shortened program. Conditions: where the library's MaxLen stands it holds a number. Chapter 34's example, walked. Conditions: where the library's MaxLen stands it holds a number. -/
import Derived.Test.YtedmjlhgpdeafaaDoorQAsmX
import Derived.Test.YtedmjlhgpdeafaaDoorQCut
namespace Go.Proofs.YtedmjlhgpdeafaaDoor
section
open Go.RowKit
set_option linter.unusedVariables false
set_option linter.unusedSimpArgs false
def shortP (P : PrM) : PrM := { cutP P with fs := (cutP P).fs.take 4 }
theorem short_small (P : PrM) : SmallP (shortP P) ∧ (shortP P).fs.length ≤ 4 := by
  have h := small_cut P
  refine ⟨⟨h.g, ?_, fun f hf => h.a f (List.mem_of_mem_take hf)⟩, ?_⟩
  · show ((cutP P).fs.take 4).length ≤ 17
    have := h.f
    rw [List.length_take]; omega
  · show ((cutP P).fs.take 4).length ≤ 4
    rw [List.length_take]; omega
theorem good_cut {P : PrM} (h : GoodP P) : GoodP (shortP P) := by
  intro f hf i hi
  have h1 : f ∈ (cutP P).fs := List.mem_of_mem_take hf
  unfold cutP at h1
  simp only at h1
  obtain ⟨g, hg, rfl⟩ := List.mem_map.1 h1
  exact h g (List.mem_of_mem_take hg) i (List.mem_of_mem_take hi)
theorem allF_take {w : World} : ∀ {vs : List FnV} {fs : List FnM} (k : Nat), AllF w vs fs → AllF w (vs.take k) (fs.take k)
  | [], [], k, _ => by cases k <;> exact trivial
  | v :: vs, f :: fs, 0, h => trivial
  | v :: vs, f :: fs, k + 1, h => ⟨h.1, allF_take k h.2⟩
  | [], _ :: _, _, h => h.elim
  | _ :: _, [], _, h => h.elim
/-- A shortened program: its lists are older ones, but for the functions' own row. -/
structure ShortMade (W0 : World) (B : Nat) (w' : World) (q : PrV) (C : PrM) : Prop where
  u : q.u = C.u
  m : q.m = C.m
  g : ReadI W0 (.slice q.g.a q.g.n q.g.c) C.gl
  f : ∃ L n, OwnR fnE 60 w' B (.slice q.f.a n q.f.c) L ∧ q.f.n ≤ L.length ∧ AllF W0 (L.take q.f.n) C.fs
theorem shortMade_read {W0 w' : World} {B : Nat} {q : PrV} {C : PrM} (h : ShortMade W0 B w' q C) (hb : Below W0.heap.size W0 w') : ReadP w' q C := by
  obtain ⟨h1, h2, h3, L, n, h4, h5, h6⟩ := h
  exact ⟨h1, readI_below h3 hb, h2, _, readR_take (ownR_read h4) h5, allF_below hb h6⟩
theorem shortMade_grown {W0 w w' : World} {B j : Nat} {q : PrV} {C : PrM} (h : ShortMade W0 B w q C) (hg : w.grownBy w' (some j)) (hj : j < B) : ShortMade W0 B w' q C := by
  obtain ⟨h1, h2, h3, L, n, h4, h5, h6⟩ := h
  refine ⟨h1, h2, h3, L, n, ownR_kept h4 hg ?_, h5, h6⟩
  cases hv : (Value.slice q.f.a n q.f.c).ownBlock with
  | none => exact Or.inl rfl
  | some i => exact Or.inr (by intro e; injection e with e; have := (ownR_lt h4 i hv).1; omega)
theorem short_of {W0 w' : World} {B B' : Nat} {q : PrV} {P : PrM} (h : CutMade W0 B w' q (cutP P)) (hB : B' ≤ B) : (q.f.n ≤ 4 → ShortMade W0 B' w' q (shortP P)) ∧ (4 < q.f.n → 4 ≤ q.f.c ∧ ShortMade W0 B' w' { q with f := ⟨q.f.a, 4, q.f.c⟩ } (shortP P)) := by
  obtain ⟨h1, h2, h3, L, h4, h5⟩ := h
  have hl := allF_len h5
  obtain ⟨a0, c0, e, e2, e3⟩ := readR_len (ownR_read h4)
  have hn : q.f.n = L.length := by injection e
  have hc : q.f.c = c0 := by injection e
  refine ⟨fun hq => ⟨h1, h2, h3, L, q.f.n, ownR_mono h4 hB, by omega, ?_⟩, fun hq => ⟨by omega, h1, h2, h3, L, q.f.n, ownR_mono h4 hB, by show 4 ≤ L.length; omega, ?_⟩⟩
  · rw [List.take_of_length_le (by omega)]
    show AllF W0 L ((cutP P).fs.take 4)
    rw [List.take_of_length_le (by omega)]
    exact h5
  · exact allF_take 4 h5
set_option maxRecDepth 100000 in
set_option maxHeartbeats 2000000 in
theorem short_any (p : PrV) (P : PrM) (W0 w : World) (h : ReadP W0 p P) (hb0 : Below W0.heap.size W0 w) : Calls Tryd.prog 6 #[aggP p] w fun e w' => ∃ q, e = .returned (aggP q) ∧ ShortMade W0 w.heap.size w' q (shortP P) ∧ Below w.heap.size w w' := by
  obtain ⟨u, ⟨ga, gn, gc⟩, m, ⟨fa, fn, fc⟩⟩ := p
  have HR := Lib.hid h
  have H0 := Lib.hid hb0
  clear h hb0
  unfold aggP Sl.v
  simp only
  go_enter Tryd.func6, Tryd.ntmps6
  go_upto_region 1 with fail
  refine wp_named ?_
  intro W hW
  have HX : Hid (Blk W w.heap.size [.bool u, .slice ga gn gc, .int .i64 m, .slice fa fn fc]) := Lib.hid (by rw [hW]; exact blk_alloc (blk_new _ _ _) _)
  have HO : Hid (Blk W (w.heap.size + 1) [.bool false, .slice none 0 0, .int .i64 0, .slice none 0 0]) := Lib.hid (by
    have q := blk_new (w.alloc (.cells #[.bool u, .slice ga gn gc, .int .i64 m, .slice fa fn fc] 25)) #[.bool false, .slice none 0 0, .int .i64 0, .slice none 0 0] 25
    rw [World.size_alloc] at q
    rw [hW]; exact q)
  have HBW : Hid (Below w.heap.size w W) := Lib.hid (by rw [hW]; exact b_alloc (b_alloc (Below.refl _ _) _) _)
  clear hW
  obtain ⟨x0, x1, x2, x3, xf⟩ := blk4 HX.out
  have xz := HX.out.1
  have HC := Lib.hid (cut_made ⟨u, ⟨ga, gn, gc⟩, m, ⟨fa, fn, fc⟩⟩ P W0 W HR.out (b_call H0.out HBW.out))
  unfold aggP Sl.v at HC
  simp only at HC
  go_wp2_with fail
  refine (HC.out).mono ?_
  rintro e w1 ⟨q, rfl, hq, hb1⟩
  obtain ⟨qu, ⟨qa, qn, qc⟩, qm, ⟨ra, rn, rc⟩⟩ := q
  have HB1 := Lib.hid hb1
  have HS := Lib.hid (short_of hq (by have := HBW.out.size; exact this : w.heap.size ≤ W.heap.size))
  have hcap : rn ≤ rc ∧ (rc : Int) ≤ 9223372036854775807 := by
    obtain ⟨_, _, _, L, h4, _⟩ := hq
    have q2 := slr_cap (ownR_read h4)
    have q3 := cap_le q2.2.1
    simp only at q3
    exact ⟨q2.1, by omega⟩
  obtain ⟨hc1, hc2⟩ := hcap
  have HQ := Lib.hid hq
  clear hq hb1 HC x0 x1 x2 x3 xf xz
  obtain ⟨x0, x1, x2, x3, xf⟩ := blk4 (blk_below HX.out HB1.out)
  have xz := (blk_below HX.out HB1.out).1
  simp only
  go_upto_region 2 with fail
  refine wp_named ?_
  intro W2 hW2
  have HX2 : Hid (Blk W2 w.heap.size [.bool qu, .slice qa qn qc, .int .i64 qm, .slice ra rn rc]) := Lib.hid (by rw [hW2]; exact blk_set (blk_set (blk_set (blk_set (blk_below HX.out HB1.out) 0 _) 1 _) 2 _) 3 _)
  have HO2 : Hid (Blk W2 (w.heap.size + 1) [.bool false, .slice none 0 0, .int .i64 0, .slice none 0 0]) := Lib.hid (by rw [hW2]; exact blk_other (blk_other (blk_other (blk_other (blk_below HO.out HB1.out) (by simp) _) (by simp) _) (by simp) _) (by simp) _)
  have HB2 : Hid (Below w.heap.size w W2) := Lib.hid (by rw [hW2]; exact b_set (b_set (b_set (b_set (b_call HBW.out HB1.out) (Nat.le_refl _) _) (Nat.le_refl _) _) (Nat.le_refl _) _) (Nat.le_refl _) _)
  have HQ2 : Hid (CutMade W0 W.heap.size W2 ⟨qu, ⟨qa, qn, qc⟩, qm, ⟨ra, rn, rc⟩⟩ (cutP P)) := Lib.hid (cutMade_grown HQ.out (j := w.heap.size) (by rw [hW2]; exact gb_set (gb_set (gb_set (gb_set (gb_refl w1 (some w.heap.size)) 0 none _) 1 none _) 2 none _) 3 none _) (by have := HX.out.1; omega))
  have HWS : Hid (w.heap.size + 1 < W.heap.size) := Lib.hid HO.out.1
  clear hW2 x0 x1 x2 x3 xf xz HQ HS
  obtain ⟨x0, x1, x2, x3, xf⟩ := blk4 HX2.out
  have xz := HX2.out.1
  obtain ⟨y0, y1, y2, y3, yf⟩ := blk4 HO2.out
  have yz := HO2.out.1
  by_cases h4 : 4 < rn
  · have h4' : (4 : Int) < rn := by omega
    have hc4 : 4 ≤ rc := by omega
    have hc4' : (4 : Int) ≤ rc := by omega
    go_wp2_with fail
    refine post_named ?_
    intro wF hwF
    have BF : Blk wF (w.heap.size + 1) [.bool qu, .slice qa qn qc, .int .i64 qm, .slice ra 4 rc] := by rw [hwF]; exact blk_set (blk_set (blk_set (blk_set (blk_other HO2.out (by simp) _) 0 _) 1 _) 2 _) 3 _
    have FB : Below w.heap.size w wF := by rw [hwF]; exact b_set (b_set (b_set (b_set (b_set HB2.out (Nat.le_refl _) _) (Nat.le_succ _) _) (Nat.le_succ _) _) (Nat.le_succ _) _) (Nat.le_succ _) _
    have FM : CutMade W0 W.heap.size wF ⟨qu, ⟨qa, qn, qc⟩, qm, ⟨ra, rn, rc⟩⟩ (cutP P) := by
      rw [hwF]
      have z1 := cutMade_grown HQ2.out (j := w.heap.size) (gb_set (gb_refl W2 (some w.heap.size)) 3 none (.slice ra 4 rc)) (by have := HWS.out; omega)
      exact cutMade_grown z1 (j := w.heap.size + 1) (gb_set (gb_set (gb_set (gb_set (gb_refl _ (some (w.heap.size + 1))) 0 none _) 1 none _) 2 none _) 3 none _) HWS.out
    clear hwF
    obtain ⟨q0, q1, q2, q3, _⟩ := blk4 BF
    exact bodyPost_ret (v := .agg #[.bool qu, .slice qa qn qc, .int .i64 qm, .slice ra 4 rc]) (by simp [results, Tryd.results6, go_sem, q0, q1, q2, q3]) rfl ⟨⟨qu, ⟨qa, qn, qc⟩, qm, ⟨ra, 4, rc⟩⟩, rfl, ((short_of FM (by have := HWS.out; omega)).2 h4).2, FB⟩
  · have h4' : (rn : Int) ≤ 4 := by omega
    go_wp2_with fail
    refine post_named ?_
    intro wF hwF
    have BF : Blk wF (w.heap.size + 1) [.bool qu, .slice qa qn qc, .int .i64 qm, .slice ra rn rc] := by rw [hwF]; exact blk_set (blk_set (blk_set (blk_set HO2.out 0 _) 1 _) 2 _) 3 _
    have FB : Below w.heap.size w wF := by rw [hwF]; exact b_set (b_set (b_set (b_set HB2.out (Nat.le_succ _) _) (Nat.le_succ _) _) (Nat.le_succ _) _) (Nat.le_succ _) _
    have FM : CutMade W0 W.heap.size wF ⟨qu, ⟨qa, qn, qc⟩, qm, ⟨ra, rn, rc⟩⟩ (cutP P) := by
      rw [hwF]
      exact cutMade_grown HQ2.out (j := w.heap.size + 1) (gb_set (gb_set (gb_set (gb_set (gb_refl _ (some (w.heap.size + 1))) 0 none _) 1 none _) 2 none _) 3 none _) HWS.out
    clear hwF
    obtain ⟨q0, q1, q2, q3, _⟩ := blk4 BF
    exact bodyPost_ret (v := .agg #[.bool qu, .slice qa qn qc, .int .i64 qm, .slice ra rn rc]) (by simp [results, Tryd.results6, go_sem, q0, q1, q2, q3]) rfl ⟨⟨qu, ⟨qa, qn, qc⟩, qm, ⟨ra, rn, rc⟩⟩, rfl, (short_of FM (by have := HWS.out; omega)).1 (by show rn ≤ 4; omega), FB⟩
end
section
open Go.RowKit
set_option linter.unusedVariables false
set_option linter.unusedSimpArgs false
theorem wake_text : filtW (linesL ([103, 108, 111, 98, 97, 108, 115, 32, 45, 10, 109, 117, 116, 101, 120, 101, 115, 32, 48, 10, 102, 117, 110, 99, 32, 45, 32, 45, 32, 105, 10, 112, 117].append [115, 104, 32, 48, 120, 48, 48, 48, 48, 48, 48, 48, 48, 48, 48, 48, 48, 48, 48, 48, 55, 32, 59, 32, 115, 101, 118, 101, 110, 10, 114, 101, 116, 10])) = [[sGlob, [45]], [sMut, [48]], [sFunc, [45], [45], [105]], [nameL 1, wideL 7], [[114, 101, 116]]] := by decide +kernel
def prW34 : PrM := ⟨false, [], 0, [⟨[], [], 0, [⟨1, 7, 0, 0⟩, ⟨15, 0, 0, 0⟩]⟩]⟩
theorem wake_may34 : mayP prW34 = true := by decide
theorem wake_good34 : GoodP prW34 := by
  intro f hf i hi
  simp only [prW34, List.mem_singleton] at hf
  subst hf
  simp only [List.mem_cons, List.not_mem_nil, or_false] at hi
  rcases hi with rfl | rfl <;> exact ⟨by decide, by decide⟩
theorem wake_print : filtW (linesL (printL prW34)) = [[sGlob, [45]], [sMut, [48]], [sFunc, [45], [45], [105]], [nameL 1, wideL 7], [[114, 101, 116]]] := by
  have hn : numI 0 = [48] := by
    unfold numI
    rw [show (0 : Int).toNat = 0 from rfl, numL_lt (by omega)]; rfl
  unfold printL topL
  rw [show prW34.m = 0 from rfl, hn]
  decide +kernel
theorem wake_parse : parseL ([103, 108, 111, 98, 97, 108, 115, 32, 45, 10, 109, 117, 116, 101, 120, 101, 115, 32, 48, 10, 102, 117, 110, 99, 32, 45, 32, 45, 32, 105, 10, 112, 117].append [115, 104, 32, 48, 120, 48, 48, 48, 48, 48, 48, 48, 48, 48, 48, 48, 48, 48, 48, 48, 55, 32, 59, 32, 115, 101, 118, 101, 110, 10, 114, 101, 116, 10]) = .done prW34 := by
  refine parse_of wake_may34 ?_
  rw [wake_text, ← print_run wake_may34 wake_good34]
  rw [wake_print]
theorem wake_cells {w : World} {q : PrV} (hq : ReadP w q prW34) : ∃ bl off fc b2 o2 cc, q.f.a = some ⟨bl, off, none⟩ ∧ q.f.n = 1 ∧ q.f.c = fc ∧ 1 ≤ fc ∧ (fc : Int) ≤ 9223372036854775807 ∧ bl < w.heap.size ∧ w.cell? ⟨bl, off + 3, none⟩ = some (.slice (some ⟨b2, o2, none⟩) 2 cc) ∧ 2 ≤ cc ∧ (cc : Int) ≤ 9223372036854775807 ∧ b2 < w.heap.size ∧ w.cell? ⟨b2, o2 + 1, none⟩ = some (.int .u64 7) := by
  obtain ⟨_, _, _, L, hL, hA⟩ := hq
  have hlen : L.length = 1 := allF_len hA
  obtain ⟨bl, off, cp, e1, r1, r2, hbl, r4⟩ := readR_pos hL (by omega)
  have hcs := (fn_cells r4 0 (by omega)).2.2.2
  have hd := (allF_at hA 0 (by omega) (by show 0 < 1; omega)).c
  generalize L[0] = v at hcs hd
  obtain ⟨b2, o2, c2, f1, s1, s2, hb2, s4⟩ := readR_pos hd (by show 0 < 2; omega)
  have x7 := s4 0 (by show 0 < 2; omega) 1 (by decide)
  have f1' : Value.slice v.c.a v.c.n v.c.c = _ := f1
  first | rw [f1] at hcs | rw [f1'] at hcs
  injection e1 with a1 a2 a3
  have t1 := cap_le r2
  have t2 := cap_le s2
  rw [hlen] at r1
  have s1' : 2 ≤ c2 := s1
  refine ⟨bl, off, cp, b2, o2, c2, a1, by rw [a2, hlen], a3, r1, by omega, hbl, ?_, s1', by omega, hb2, ?_⟩
  · have e : off + 0 * 4 + 3 = off + 3 := by omega
    first | exact hcs | (rw [← e]; exact hcs) | (simpa using hcs)
  · have e : o2 + (0 * inE.size + 1) = o2 + 1 := by omega
    rw [e] at x7
    exact x7
set_option maxRecDepth 100000 in
set_option maxHeartbeats 2000000 in
theorem awake34 (w : World) (hm : MaxAt w) : Calls Tryd.prog 8 #[] w fun e w' => e = .returned (.bool true) ∧ Below w.heap.size w w' := by
  have HP := Lib.hid (aparse_any ([103, 108, 111, 98, 97, 108, 115, 32, 45, 10, 109, 117, 116, 101, 120, 101, 115, 32, 48, 10, 102, 117, 110, 99, 32, 45, 32, 45, 32, 105, 10, 112, 117].append [115, 104, 32, 48, 120, 48, 48, 48, 48, 48, 48, 48, 48, 48, 48, 48, 48, 48, 48, 48, 55, 32, 59, 32, 115, 101, 118, 101, 110, 10, 114, 101, 116, 10]) w (by decide) hm)
  rw [wake_parse] at HP
  unfold strV ParseEnd at HP
  go_enter Tryd.func8, Tryd.ntmps8
  go_wp2_with fail
  refine (HP.out).mono ?_
  rintro e w1 ⟨hb1, q, rfl, hq⟩
  obtain ⟨bl, off, fc, b2, o2, cc, e1, e2, e3, z1, z2, z3, z4, z5, z6, z7, z8⟩ := wake_cells hq
  have HB1 := Lib.hid hb1
  clear hq hb1
  obtain ⟨qu, ⟨qa, qn, qc⟩, qm, ⟨ra, rn, rc⟩⟩ := q
  simp only at e1 e2 e3
  subst e1 e2 e3
  unfold aggP Sl.v
  simp only
  go_upto_region 2 with fail
  refine wp_named ?_
  intro W2 hW2
  have HB2 : Hid (Below w1.heap.size w1 W2) := Lib.hid (by rw [hW2]; exact b_alloc (Below.refl _ _) _)
  have HX2 : Hid (Blk W2 w1.heap.size [.bool qu, .slice qa qn qc, .int .i64 qm, .slice (some ⟨bl, off, none⟩) 1 rc]) := Lib.hid (by rw [hW2]; exact blk_new _ _ _)
  clear hW2
  obtain ⟨x0, x1, x2, x3, xf⟩ := blk4 HX2.out
  have xz := HX2.out.1
  have y3 : W2.cell? ⟨bl, off + 3, none⟩ = some (.slice (some ⟨b2, o2, none⟩) 2 cc) := ((bcell HB2.out).1 _ _ z3).trans z4
  have y7 : W2.cell? ⟨b2, o2 + 1, none⟩ = some (.int .u64 7) := ((bcell HB2.out).1 _ _ z7).trans z8
  have z3' : bl < W2.heap.size := by have := HB2.out.size; omega
  have z7' : b2 < W2.heap.size := by have := HB2.out.size; omega
  go_wp2_with fail
  go_ret
  exact ⟨rfl, b_call HB1.out HB2.out⟩
end
end Go.Proofs.YtedmjlhgpdeafaaDoor
