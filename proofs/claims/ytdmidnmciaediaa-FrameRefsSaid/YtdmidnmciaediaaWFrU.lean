/- Layer 28: the contracts of the document's Pop, Go, SetLocal. Conditions: those stated. -/
import Derived.Test.YtdmidnmciaediaaWFrR
import Derived.Test.YtdmidnmciaediaaWFrm4
namespace Go.Proofs.Ytdmidnmciaediaa
open Go.RowKit
set_option linter.unusedVariables false
set_option linter.unusedSimpArgs false
attribute [local go_sem] over_cell over_frozen
variable {w0 w w' : World} {r : Nat} {q : PrV} {lv : Sl} {L : List FrM} {m : FrM}
theorem rpop_none (h : DocF w0 w r q lv []) : Calls Try.prog 68 #[rp r] w fun e w' => e = .returned (.tuple #[aggV ⟨0, 0⟩, .int .i64 6]) ∧ Below w.heap.size w w' := by
  obtain ⟨n1, n2, n3⟩ := doc_len h
  obtain ⟨u, ⟨ga, gn, gc⟩, qm, ⟨fa, fn, fc⟩⟩ := q
  obtain ⟨la, ln, lc⟩ := lv
  simp only [List.length_nil] at n1 n2 n3
  subst n1
  have b4 := h.hd.2.1 4 (by simp)
  simp only [List.getElem_cons_succ, List.getElem_cons_zero] at b4
  have bz := h.hd.1
  clear h n2
  unfold rp
  have z0 : ((0 : Int) == 0) = true := rfl
  go_enter Try.func68, Try.ntmps68
  go_upto_region 1 with fail
  refine wp_named ?_
  intro W hW
  have X0 : Blk W w.heap.size [.int .i64 0, .int .u64 0] := by rw [hW]; exact blk_new _ _ _
  have HBW := Lib.hid (show Below w.heap.size w W by rw [hW]; exact b_alloc (Below.refl _ _) _)
  have b4' := ((bcell HBW.out).1 _ _ bz).trans b4
  have bz' := Nat.lt_of_lt_of_le bz HBW.out.size
  obtain ⟨y0, y1, yf⟩ := blk2 X0
  have yz := X0.1
  clear hW X0 b4 bz
  go_big_quiet (fail)
  go_wp2_with fail
  exact bodyPost_ret (v := .tuple #[aggV ⟨0, 0⟩, .int .i64 6]) (by simp [results, Try.results68, go_sem, aggV, y0, y1]) rfl ⟨rfl, b_grown (b_drewN HBW.out _) (gb_set (gb_set (gb_refl _ (some w.heap.size)) _ _ _) _ _ _) (Nat.le_refl _)⟩
theorem rpop_empty (h : DocF w0 w r q lv (L ++ [m])) (hL : L.length ≤ 24) (hs : m.stk.length = 0) : Calls Try.prog 68 #[rp r] w fun e w' => e = .returned (.tuple #[aggV ⟨0, 0⟩, .int .i64 6]) ∧ Below w.heap.size w w' := by
  obtain ⟨n1, n2, n3⟩ := doc_len h
  rw [List.length_append, List.length_singleton] at n1 n2
  obtain ⟨vb, vo, v9, ea, hvb, hv, c0, c1, c2, c3, e1, e2⟩ := doc_top h
  have HV := Lib.hid hv
  have HDD := Lib.hid h
  obtain ⟨va, vb', ⟨wa, wn, wcap⟩, ⟨ya, yn, yc⟩⟩ := v9
  obtain ⟨la, ln, lc⟩ := lv
  simp only at n1 n2 n3 ea c2 c3 e1 e2
  subst n1
  subst ea
  subst e1 e2
  have b4 := h.hd.2.1 4 (by simp)
  simp only [List.getElem_cons_succ, List.getElem_cons_zero] at b4
  have bz := h.hd.1
  have nl : (L.length : Int) ≤ 24 := by omega
  have ncl : (L.length : Int) < lc := by omega
  have wl : IntKind.i64.wrap (L.length : Int) = L.length := by rw [IntKind.wrap_i64]; omega
  have nl0 : (0 : Int) ≤ L.length := by omega
  have nll : (L.length : Int) < L.length + 1 := by omega
  have nz : ((L.length : Int) + 1 == 0) = false := beq_false_of_ne (by omega)
  have nz2 : ((m.stk.length : Int) == 0) = true := by rw [hs]; rfl
  clear h n2 hL hv hs
  unfold rp
  go_enter Try.func68, Try.ntmps68
  go_upto_region 1 with fail
  refine wp_named ?_
  intro W hW
  have X0 : Blk W w.heap.size [.int .i64 0, .int .u64 0] := by rw [hW]; exact blk_new _ _ _
  have HBW := Lib.hid (show Below w.heap.size w W by rw [hW]; exact b_alloc (Below.refl _ _) _)
  have b4' := ((bcell HBW.out).1 _ _ bz).trans b4
  have bz' := Nat.lt_of_lt_of_le bz HBW.out.size
  have c3' := ((bcell HBW.out).1 _ _ hvb).trans c3
  have hvb' := Nat.lt_of_lt_of_le hvb HBW.out.size
  obtain ⟨y0, y1, yf⟩ := blk2 X0
  have yz := X0.1
  clear hW X0 b4 bz c0 c1 c2 c3 hvb
  go_big_quiet (fail)
  go_wp2_with fail
  exact bodyPost_ret (v := .tuple #[aggV ⟨0, 0⟩, .int .i64 6]) (by simp [results, Try.results68, go_sem, aggV, y0, y1]) rfl ⟨rfl, b_grown (b_drewN HBW.out _) (gb_set (gb_set (gb_refl _ (some w.heap.size)) _ _ _) _ _ _) (Nat.le_refl _)⟩
def DPopEnd (w0 w : World) (r : Nat) (q : PrV) (L : List FrM) (m : FrM) (v : ValM) (e : Ending) (w' : World) : Prop := e = .returned (.tuple #[aggV v, .int .i64 0]) ∧ ∃ lv', DocF w0 w' r q lv' (L ++ [m]) ∧ GrowX w w' (fun j => j = r)
theorem slOk_less {w : World} {E : TypeId} {a : Option Addr} {n k : Nat} (h : slOk w E a n) (hk : k ≤ n) : slOk w E a k := by
  rcases h with z | z
  · exact Or.inl (by omega)
  · exact Or.inr z
set_option maxRecDepth 100000 in
set_option maxHeartbeats 4000000 in
theorem rpop_any (h : DocF w0 w r q lv (L ++ [m])) (hL : L.length ≤ 24) {S : List ValM} {v : ValM} (hs : m.stk = S ++ [v]) (hS : S.length ≤ 100) : Calls Try.prog 68 #[rp r] w (DPopEnd w0 w r q L ⟨m.f, m.at_, m.loc, S⟩ v) := by
  obtain ⟨n1, n2, n3⟩ := doc_len h
  rw [List.length_append, List.length_singleton] at n1 n2
  obtain ⟨vb, vo, v9, ea, hvb, hv, c0, c1, c2, c3, e1, e2⟩ := doc_top h
  have HV := Lib.hid hv
  have HDD := Lib.hid h
  obtain ⟨va, vb', ⟨wa, wn, wcap⟩, ⟨ya, yn, yc⟩⟩ := v9
  obtain ⟨la, ln, lc⟩ := lv
  simp only at n1 n2 n3 ea c2 c3 e1 e2
  subst n1
  subst ea
  subst e1 e2
  have b4 := h.hd.2.1 4 (by simp)
  simp only [List.getElem_cons_succ, List.getElem_cons_zero] at b4
  have bz := h.hd.1
  have nl : (L.length : Int) ≤ 24 := by omega
  have ncl : (L.length : Int) < lc := by omega
  have wl : IntKind.i64.wrap (L.length : Int) = L.length := by rw [IntKind.wrap_i64]; omega
  have nl0 : (0 : Int) ≤ L.length := by omega
  have nll : (L.length : Int) < L.length + 1 := by omega
  have nz : ((L.length : Int) + 1 == 0) = false := beq_false_of_ne (by omega)
  have hsl : m.stk.length = S.length + 1 := by rw [hs, List.length_append, List.length_singleton]
  obtain ⟨sb, so, scap, es, hs1, _, hsb, hsc⟩ := valR_pos hv.s (by omega)
  injection es with es1 _ es3
  simp only at es1 es3 hs1
  have hsz : S.length < m.stk.length := by omega
  obtain ⟨g0, g1⟩ := hsc S.length hsz
  have hel : m.stk[S.length] = v := by
    simp [hs]
  rw [hel] at g0 g1
  subst es1
  have HOK : Hid (RfOk w ⟨va, vb', ⟨wa, m.loc.length, wcap⟩, ⟨some ⟨sb, so, none⟩, S.length, yc⟩⟩ ⟨m.f, m.at_, m.loc, S⟩) := Lib.hid (by
    have y := readR_take (n := S.length) hv.s (by omega)
    rw [hs, List.take_left] at y
    exact ⟨hv.f, hv.a, hv.l, hv.lt, y, slOk_less hv.st (by show S.length ≤ m.stk.length; omega)⟩)
  have hyc : (S.length : Int) + 1 ≤ yc := by omega
  have hs0 : (0 : Int) ≤ S.length := by omega
  have hs9 : (S.length : Int) ≤ 100 := by omega
  have hs8 : (S.length : Int) ≤ yc := by omega
  have hs7 : (S.length : Int) < S.length + 1 := by omega
  have hvf := hv.f
  have hva := hv.a
  simp only at hvf hva
  have HFA := Lib.hid (And.intro hvf hva)
  have ws : IntKind.i64.wrap (S.length : Int) = S.length := by rw [IntKind.wrap_i64]; omega
  have nz2 : ((S.length : Int) + 1 == 0) = false := beq_false_of_ne (by omega)
  rw [hsl] at c3
  have HLL := Lib.hid hL
  clear h n2 hL hv hs hS es3 hs1 hsc hsz hel hsl hvf hva
  unfold rp
  go_enter Try.func68, Try.ntmps68
  go_upto_region 1 with fail
  refine wp_named ?_
  intro W hW
  have X0 : Blk W w.heap.size [.int .i64 0, .int .u64 0] := by rw [hW]; exact blk_new _ _ _
  have HBW := Lib.hid (show Below w.heap.size w W by rw [hW]; exact b_alloc (Below.refl _ _) _)
  have HT0 : Hid (tyB W w.heap.size = some VRT) := Lib.hid (by rw [hW]; exact tyB_new _ _ _)
  have HX0 := Lib.hid X0
  have b4' := ((bcell HBW.out).1 _ _ bz).trans b4
  have bz' := Nat.lt_of_lt_of_le bz HBW.out.size
  have c0' := ((bcell HBW.out).1 _ _ hvb).trans c0
  have c1' := ((bcell HBW.out).1 _ _ hvb).trans c1
  have c2' := ((bcell HBW.out).1 _ _ hvb).trans c2
  have c3' := ((bcell HBW.out).1 _ _ hvb).trans c3
  have hvb' := Nat.lt_of_lt_of_le hvb HBW.out.size
  have HG := Lib.hid (And.intro hsb (And.intro g0 g1))
  have hrw : r ≠ w.heap.size := by omega
  have HRW := Lib.hid (show r < w.heap.size from bz)
  clear hW X0 b4 bz c0 c1 c2 c3 hvb hsb g0 g1
  go_big_quiet (fail)
  obtain ⟨W1, hW1⟩ : ∃ x, x = W.drewN nq := ⟨_, rfl⟩
  rw [← hW1]
  have hbD : Below W.heap.size W W1 := by rw [hW1]; exact b_drewN (Below.refl _ _) _
  have hsD : W1.heap.size = W.heap.size := by rw [hW1]; rfl
  have b4'' := ((bcell hbD).1 _ _ bz').trans b4'
  have c0'' := ((bcell hbD).1 _ _ hvb').trans c0'
  have c1'' := ((bcell hbD).1 _ _ hvb').trans c1'
  have c2'' := ((bcell hbD).1 _ _ hvb').trans c2'
  have c3'' := ((bcell hbD).1 _ _ hvb').trans c3'
  have bz'' := Nat.lt_of_lt_of_le bz' hbD.size
  have hvb'' := Nat.lt_of_lt_of_le hvb' hbD.size
  have HBD := Lib.hid hbD
  have HSD := Lib.hid hsD
  clear hW1 hbD hsD b4' bz' c0' c1' c2' c3' hvb'
  go_upto_region 3 with fail
  go_region
  refine thenF_named ?_
  intro W2 hW2
  have S2 : Blk W2 W1.heap.size [.int .i64 m.f, .int .i64 m.at_, .slice wa m.loc.length wcap, .slice (some ⟨sb, so, none⟩) (S.length + 1) yc] ∧ Below W.heap.size W W2 := by
    refine ⟨by rw [hW2]; exact blk_new _ _ _, b_call HBD.out (by rw [hW2]; exact b_drew (b_alloc (Below.refl _ _) _))⟩
  have HB2 := Lib.hid (b_call HBW.out S2.2)
  have HX2 := Lib.hid S2.1
  have HX02 := Lib.hid (blk_below HX0.out S2.2)
  have HT02 : Hid (tyB W2 w.heap.size = some VRT) := Lib.hid (tyB_call HT0.out S2.2)
  obtain ⟨x0, x1, x2, x3, xf⟩ := blk4 S2.1
  have xz := S2.1.1
  have g0 := ((bcell HB2.out).1 _ _ HG.out.1).trans HG.out.2.1
  have g1 := ((bcell HB2.out).1 _ _ HG.out.1).trans HG.out.2.2
  have gz := Nat.lt_of_lt_of_le HG.out.1 HB2.out.size
  clear hW2 S2 b4'' bz'' c0'' c1'' c2'' c3'' hvb''
  go_upto_region 5 with fail
  refine wp_named ?_
  intro W3 hW3
  have S3 : Blk W3 W2.heap.size [.int .i64 v.k, .int .u64 v.b] ∧ Below W2.heap.size W2 W3 := by
    rw [hW3]
    exact ⟨blk_new _ _ _, b_alloc (Below.refl _ _) _⟩
  have HX3 := Lib.hid (blk_below HX2.out S3.2)
  have HY3 := Lib.hid S3.1
  have HB23 := Lib.hid S3.2
  have HB3 := Lib.hid (b_call HB2.out S3.2)
  clear hW3 S3 x0 x1 x2 x3 xf xz g0 g1 gz
  obtain ⟨x0, x1, x2, x3, xf⟩ := blk4 HX3.out
  have xz := HX3.out.1
  go_upto_region 6 with fail
  refine wp_named ?_
  intro W4 hW4
  have hWs := HBW.out.size
  have hXY : W1.heap.size ≠ W2.heap.size := by have := HX2.out.1; omega
  have S4 : Blk W4 W1.heap.size [.int .i64 m.f, .int .i64 m.at_, .slice wa m.loc.length wcap, .slice (some ⟨sb, so, none⟩) S.length yc] ∧ Blk W4 W2.heap.size [.int .i64 v.k, .int .u64 v.b] ∧ Blk W4 w.heap.size [.int .i64 0, .int .u64 0] ∧ tyB W4 w.heap.size = some VRT ∧ Below w.heap.size w W4 := by
    have hw1 : w.heap.size < W.heap.size := HX0.out.1
    rw [hW4]
    exact ⟨blk_set HX3.out 3 _, blk_other HY3.out hXY _, blk_other (blk_below HX02.out HB23.out) (by show W1.heap.size ≠ w.heap.size; have := HSD.out; omega) _, by rw [tyB_set]; exact tyB_call HT02.out HB23.out, b_set HB3.out (p := ⟨W1.heap.size, 3, none⟩) (by show w.heap.size ≤ W1.heap.size; have := HSD.out; omega) _⟩
  have HS4 := Lib.hid S4
  have HB4 := Lib.hid S4.2.2.2.2
  clear hW4 x0 x1 x2 x3 xf xz hWs
  obtain ⟨x0, x1, x2, x3, xf⟩ := blk4 S4.1
  have xz := S4.1.1
  obtain ⟨V, vx, hR, hl, hk, _⟩ := doc_R2 HDD.out
  have HVK := Lib.hid (And.intro hl hk)
  have HWI := Lib.hid (rwith_any (docR_below hR HB4.out) ⟨m.f, m.at_, ⟨wa, m.loc.length, wcap⟩, ⟨some ⟨sb, so, none⟩, S.length, yc⟩⟩ (by have := HLL.out; omega))
  unfold rp aggRf at HWI
  simp only at HWI
  clear hR hl hk S4
  go_wp2_with fail
  refine HWI.out.mono ?_
  rintro e w9 ⟨rfl, lv', hd', hg'⟩
  have HD9 := Lib.hid hd'
  have HG9 := Lib.hid (gx_pre HB4.out hg')
  have HYY : Hid (Blk w9 W2.heap.size [.int .i64 v.k, .int .u64 v.b]) := Lib.hid (blk_gx HS4.out.2.1 hg' (fun e => by have := HRW.out; have := HB2.out.size; omega))
  have HZZ : Hid (Blk w9 w.heap.size [.int .i64 0, .int .u64 0]) := Lib.hid (blk_gx HS4.out.2.2.1 hg' (fun e => by have := HRW.out; omega))
  have HTZ : Hid (tyB w9 w.heap.size = some VRT) := Lib.hid (tyB_gx HS4.out.2.2.2.1 hg' (fun e => by have := HRW.out; omega))
  obtain ⟨y0, y1, _⟩ := blk2 HYY.out
  have yz := HYY.out.1
  obtain ⟨z0, z1, zf⟩ := blk2 HZZ.out
  have zz := HZZ.out.1
  clear hd' hg' x0 x1 x2 x3 xf xz hXY
  go_wp2_with fail
  refine post_named ?_
  intro w10 hw10
  have g10 : w10 = (w9.setCell ⟨w.heap.size, 0, none⟩ (.int .i64 v.k)).setCell ⟨w.heap.size, 1, none⟩ (.int .u64 v.b) := hw10
  have u01 := blk2 (blk_set (blk_set HZZ.out 0 (.int .i64 v.k)) 1 (.int .u64 v.b))
  have hd10 : DocR w10 r q lv' (V ++ [⟨m.f, m.at_, ⟨wa, m.loc.length, wcap⟩, ⟨some ⟨sb, so, none⟩, S.length, yc⟩⟩]) := by
    rw [g10]
    exact docR_set (docR_set HD9.out (p := ⟨w.heap.size, 0, none⟩) HTZ.out (by decide) (by decide) _) (p := ⟨w.heap.size, 1, none⟩) (by rw [tyB_set]; exact HTZ.out) (by decide) (by decide) _
  have hg10 : GrowX w w10 (fun j => j = r) := by
    rw [g10]
    exact gx_set (gx_set HG9.out (p := ⟨w.heap.size, 0, none⟩) (Or.inl (Nat.le_refl _)) _) (p := ⟨w.heap.size, 1, none⟩) (Or.inl (Nat.le_refl _)) _
  have u0 : w10.cell? ⟨w.heap.size, 0, none⟩ = some (.int .i64 v.k) := by rw [g10]; exact u01.1
  have u1 : w10.cell? ⟨w.heap.size, 1, none⟩ = some (.int .u64 v.b) := by rw [g10]; exact u01.2.1
  clear hw10 g10 u01
  have hok := rfOk_gx HDD.out.ty HOK.out hg10
  have hok2 : RfOk w10 ⟨m.f, m.at_, ⟨wa, m.loc.length, wcap⟩, ⟨some ⟨sb, so, none⟩, S.length, yc⟩⟩ ⟨m.f, m.at_, m.loc, S⟩ := ⟨rfl, rfl, hok.l, hok.lt, hok.s, hok.st⟩
  exact bodyPost_ret (v := .tuple #[aggV v, .int .i64 0]) (by simp [results, Try.results68, go_sem, aggV, u0, u1]) rfl ⟨rfl, lv', doc_with HDD.out hg10 HVK.out.1 HVK.out.2 hd10 hok2, hg10⟩
theorem rgo_none (h : DocF w0 w r q lv []) (a : Int) : Calls Try.prog 72 #[rp r, .int .i64 a] w fun e w' => e = .returned (.int .i64 6) ∧ Below w.heap.size w w' := by
  obtain ⟨n1, n2, n3⟩ := doc_len h
  obtain ⟨u, ⟨ga, gn, gc⟩, qm, ⟨fa, fn, fc⟩⟩ := q
  obtain ⟨la, ln, lc⟩ := lv
  simp only [List.length_nil] at n1 n2 n3
  subst n1
  have b4 := h.hd.2.1 4 (by simp)
  simp only [List.getElem_cons_succ, List.getElem_cons_zero] at b4
  have bz := h.hd.1
  clear h n2
  unfold rp
  go_enter Try.func72, Try.ntmps72
  go_wp2_with fail
  go_ret
  exact ⟨rfl, Below.refl _ _⟩
def DSetEnd (w0 w : World) (r : Nat) (q : PrV) (L : List FrM) (m : FrM) (e : Ending) (w' : World) : Prop := e = .returned (.int .i64 0) ∧ ∃ lv', DocF w0 w' r q lv' (L ++ [m]) ∧ GrowX w w' (fun j => j = r)
set_option maxRecDepth 100000 in
set_option maxHeartbeats 4000000 in
theorem rgo_out {P : PrM} (h : DocF w0 w r q lv (L ++ [m])) (hP : ReadP w0 q P) (hL : L.length ≤ 24) (k : Nat) (hk : k < P.fs.length) (hf : m.f = k) (a : Int) (hcl : P.fs[k].code.length ≤ 100) (ha : ¬ (0 ≤ a ∧ a < P.fs[k].code.length)) : Calls Try.prog 72 #[rp r, .int .i64 a] w fun e w' => e = .returned (.int .i64 3) ∧ Below w.heap.size w w' := by
  obtain ⟨n1, n2, n3⟩ := doc_len h
  rw [List.length_append, List.length_singleton] at n1 n2
  obtain ⟨vb, vo, v9, ea, hvb, hv, c0, c1, c2, c3, e1, e2⟩ := doc_top h
  have HV := Lib.hid hv
  have HDD := Lib.hid h
  obtain ⟨va, vb', ⟨wa, wn, wcap⟩, ⟨ya, yn, yc⟩⟩ := v9
  obtain ⟨la, ln, lc⟩ := lv
  simp only at n1 n2 n3 ea c2 c3 e1 e2
  subst n1
  subst ea
  subst e1 e2
  have b4 := h.hd.2.1 4 (by simp)
  simp only [List.getElem_cons_succ, List.getElem_cons_zero] at b4
  have bz := h.hd.1
  have nl : (L.length : Int) ≤ 24 := by omega
  have ncl : (L.length : Int) < lc := by omega
  have wl : IntKind.i64.wrap (L.length : Int) = L.length := by rw [IntKind.wrap_i64]; omega
  have nl0 : (0 : Int) ≤ L.length := by omega
  have nll : (L.length : Int) < L.length + 1 := by omega
  have nz : ((L.length : Int) + 1 == 0) = false := beq_false_of_ne (by omega)
  obtain ⟨fl1, fl2, fl3⟩ := fns_len hP
  have fl4 := cap_le fl3
  obtain ⟨pb, po, epa, pv, plv, cv, hfn⟩ := fns_at hP hk
  have hfw := fnAt_below hfn h.be
  obtain ⟨_, ccap, ecv, hc1, hc2⟩ := readR_len hfn.rc
  injection ecv with _ ecn _
  have HFN := Lib.hid hfw
  have HBE := Lib.hid h.be
  obtain ⟨u, ⟨ga, gn, gc⟩, qm, ⟨fa, fn, fc⟩⟩ := q
  simp only at fl1 fl2 fl4 epa
  subst fl1
  subst epa
  have b3 := h.hd.2.1 3 (by simp)
  simp only [List.getElem_cons_succ, List.getElem_cons_zero] at b3
  have f3 := hfw.c
  rw [ecn] at f3
  have fz := hfw.lt
  have k0 : (0 : Int) ≤ k := by omega
  have k1 : (k : Int) < P.fs.length := by omega
  have kc : (k : Int) < fc := by omega
  rw [hf] at c0
  obtain ⟨N, hN⟩ : ∃ N, N = P.fs[k].code.length := ⟨_, rfl⟩
  rw [← hN] at f3
  have HF := Lib.hid hf
  have HLL := Lib.hid hL
  have n9 : (N : Int) ≤ 100 := by omega
  have ha2 : a < 0 ∨ (0 ≤ a ∧ (N : Int) ≤ a) := by omega
  clear h n2 hL hv hf hN hP hfn hfw hc1 hc2 fl2 fl3 ecn ha
  rcases ha2 with a1 | ⟨a1, a2⟩
  · skip
    have d1 : decide (a < 0) = true := decide_eq_true a1
    unfold rp
    go_enter Try.func72, Try.ntmps72
    go_upto_region 3 with fail
    go_region
    refine thenF_named ?_
    intro W hW
    have S1 : Blk W w.heap.size [.int .i64 k, .int .i64 m.at_, .slice wa m.loc.length wcap, .slice ya m.stk.length yc] ∧ Below w.heap.size w W := by
      rw [hW]
      exact ⟨blk_new _ _ _, b_drew (b_alloc (Below.refl _ _) _)⟩
    have HX := Lib.hid S1.1
    have HB := Lib.hid S1.2
    obtain ⟨x0, x1, x2, x3, _⟩ := blk4 S1.1
    have xz := S1.1.1
    have b3' := ((bcell HB.out).1 _ _ bz).trans b3
    have bz' := Nat.lt_of_lt_of_le bz HB.out.size
    have f3' := ((bcell HB.out).1 _ _ fz).trans f3
    have fz' := Nat.lt_of_lt_of_le fz HB.out.size
    clear hW S1 b4 b3 bz c0 c1 c2 c3 hvb f3 fz
    go_upto_region 4 with fail
    go_big_quiet (fail)
    go_wp2_with fail
    go_ret
    exact ⟨rfl, b_drewN HB.out _⟩
  · skip
    have d1 : decide (a < 0) = false := decide_eq_false (by omega)
    have d2 : decide ((N : Int) ≤ a) = true := decide_eq_true a2
    have a3 : ¬ (a < 0) := by omega
    unfold rp
    go_enter Try.func72, Try.ntmps72
    go_upto_region 3 with fail
    go_region
    refine thenF_named ?_
    intro W hW
    have S1 : Blk W w.heap.size [.int .i64 k, .int .i64 m.at_, .slice wa m.loc.length wcap, .slice ya m.stk.length yc] ∧ Below w.heap.size w W := by
      rw [hW]
      exact ⟨blk_new _ _ _, b_drew (b_alloc (Below.refl _ _) _)⟩
    have HX := Lib.hid S1.1
    have HB := Lib.hid S1.2
    obtain ⟨x0, x1, x2, x3, _⟩ := blk4 S1.1
    have xz := S1.1.1
    have b3' := ((bcell HB.out).1 _ _ bz).trans b3
    have bz' := Nat.lt_of_lt_of_le bz HB.out.size
    have f3' := ((bcell HB.out).1 _ _ fz).trans f3
    have fz' := Nat.lt_of_lt_of_le fz HB.out.size
    clear hW S1 b4 b3 bz c0 c1 c2 c3 hvb f3 fz
    go_upto_region 4 with fail
    go_big_quiet (fail)
    go_wp2_with fail
    go_ret
    exact ⟨rfl, b_drewN HB.out _⟩
set_option maxRecDepth 100000 in
set_option maxHeartbeats 4000000 in
theorem rgo_any {P : PrM} (h : DocF w0 w r q lv (L ++ [m])) (hP : ReadP w0 q P) (hL : L.length ≤ 24) (k : Nat) (hk : k < P.fs.length) (hf : m.f = k) (a : Int) (hcl : P.fs[k].code.length ≤ 100) (ha0 : 0 ≤ a) (ha1 : a < P.fs[k].code.length) : Calls Try.prog 72 #[rp r, .int .i64 a] w (DSetEnd w0 w r q L ⟨m.f, a, m.loc, m.stk⟩) := by
  obtain ⟨n1, n2, n3⟩ := doc_len h
  rw [List.length_append, List.length_singleton] at n1 n2
  obtain ⟨vb, vo, v9, ea, hvb, hv, c0, c1, c2, c3, e1, e2⟩ := doc_top h
  have HV := Lib.hid hv
  have HDD := Lib.hid h
  obtain ⟨va, vb', ⟨wa, wn, wcap⟩, ⟨ya, yn, yc⟩⟩ := v9
  obtain ⟨la, ln, lc⟩ := lv
  simp only at n1 n2 n3 ea c2 c3 e1 e2
  subst n1
  subst ea
  subst e1 e2
  have b4 := h.hd.2.1 4 (by simp)
  simp only [List.getElem_cons_succ, List.getElem_cons_zero] at b4
  have bz := h.hd.1
  have nl : (L.length : Int) ≤ 24 := by omega
  have ncl : (L.length : Int) < lc := by omega
  have wl : IntKind.i64.wrap (L.length : Int) = L.length := by rw [IntKind.wrap_i64]; omega
  have nl0 : (0 : Int) ≤ L.length := by omega
  have nll : (L.length : Int) < L.length + 1 := by omega
  have nz : ((L.length : Int) + 1 == 0) = false := beq_false_of_ne (by omega)
  obtain ⟨fl1, fl2, fl3⟩ := fns_len hP
  have fl4 := cap_le fl3
  obtain ⟨pb, po, epa, pv, plv, cv, hfn⟩ := fns_at hP hk
  have hfw := fnAt_below hfn h.be
  obtain ⟨_, ccap, ecv, hc1, hc2⟩ := readR_len hfn.rc
  injection ecv with _ ecn _
  have HFN := Lib.hid hfw
  have HBE := Lib.hid h.be
  obtain ⟨u, ⟨ga, gn, gc⟩, qm, ⟨fa, fn, fc⟩⟩ := q
  simp only at fl1 fl2 fl4 epa
  subst fl1
  subst epa
  have b3 := h.hd.2.1 3 (by simp)
  simp only [List.getElem_cons_succ, List.getElem_cons_zero] at b3
  have f3 := hfw.c
  rw [ecn] at f3
  have fz := hfw.lt
  have k0 : (0 : Int) ≤ k := by omega
  have k1 : (k : Int) < P.fs.length := by omega
  have kc : (k : Int) < fc := by omega
  rw [hf] at c0
  obtain ⟨N, hN⟩ : ∃ N, N = P.fs[k].code.length := ⟨_, rfl⟩
  rw [← hN] at f3
  have HF := Lib.hid hf
  have HLL := Lib.hid hL
  have n9 : (N : Int) ≤ 100 := by omega
  have d1 : decide (a < 0) = false := decide_eq_false (by omega)
  have d2 : decide ((N : Int) ≤ a) = false := decide_eq_false (by omega)
  have a3 : ¬ (a < 0) := by omega
  have a4 : ¬ ((N : Int) ≤ a) := by omega
  have hvok := hv
  have HVO := Lib.hid hvok
  clear h n2 hL hv hf hN hP hfn hfw hc1 hc2 fl2 fl3 ecn hvok ha1
  unfold rp
  go_enter Try.func72, Try.ntmps72
  go_upto_region 3 with fail
  go_region
  refine thenF_named ?_
  intro W hW
  have S1 : Blk W w.heap.size [.int .i64 k, .int .i64 m.at_, .slice wa m.loc.length wcap, .slice ya m.stk.length yc] ∧ Below w.heap.size w W := by
    rw [hW]
    exact ⟨blk_new _ _ _, b_drew (b_alloc (Below.refl _ _) _)⟩
  have HX := Lib.hid S1.1
  have HB := Lib.hid S1.2
  obtain ⟨x0, x1, x2, x3, _⟩ := blk4 S1.1
  have xz := S1.1.1
  have b3' := ((bcell HB.out).1 _ _ bz).trans b3
  have bz' := Nat.lt_of_lt_of_le bz HB.out.size
  have f3' := ((bcell HB.out).1 _ _ fz).trans f3
  have fz' := Nat.lt_of_lt_of_le fz HB.out.size
  clear hW S1 b4 b3 bz c0 c1 c2 c3 hvb f3 fz
  go_upto_region 4 with fail
  go_big_quiet (fail)
  go_upto_region 7 with fail
  refine wp_named ?_
  intro W4 hW4
  have S4 : Blk W4 w.heap.size [.int .i64 k, .int .i64 a, .slice wa m.loc.length wcap, .slice ya m.stk.length yc] ∧ Below w.heap.size w W4 := by
    rw [hW4]
    exact ⟨blk_set (blk_drewN HX.out _) 1 _, b_set (b_drewN HB.out _) (p := ⟨w.heap.size, 1, none⟩) (Nat.le_refl _) _⟩
  have HB4 := Lib.hid S4.2
  clear x0 x1 x2 x3 xz b3' bz' f3' fz' hW4
  obtain ⟨x0, x1, x2, x3, xf⟩ := blk4 S4.1
  have xz := S4.1.1
  obtain ⟨V, vx, hR, hl, hk9, _⟩ := doc_R2 HDD.out
  have HVK := Lib.hid (And.intro hl hk9)
  have HWI := Lib.hid (rwith_any (docR_below hR HB4.out) ⟨k, a, ⟨wa, m.loc.length, wcap⟩, ⟨ya, m.stk.length, yc⟩⟩ (by have := HLL.out; omega))
  unfold rp aggRf at HWI
  simp only at HWI
  clear hR hl hk9 S4
  go_wp2_with fail
  refine HWI.out.mono ?_
  rintro e w9 ⟨rfl, lv', hd', hg'⟩
  have HD9 := Lib.hid hd'
  have HG9 := Lib.hid (gx_pre HB4.out hg')
  clear hd' hg' x0 x1 x2 x3 xf xz
  go_wp2_with fail
  go_ret
  have hok := rfOk_gx HDD.out.ty HVO.out HG9.out
  have hok2 : RfOk w9 ⟨k, a, ⟨wa, m.loc.length, wcap⟩, ⟨ya, m.stk.length, yc⟩⟩ ⟨m.f, a, m.loc, m.stk⟩ := ⟨HF.out.symm, rfl, hok.l, hok.lt, hok.s, hok.st⟩
  exact ⟨rfl, lv', doc_with HDD.out HG9.out HVK.out.1 HVK.out.2 HD9.out hok2, HG9.out⟩
end Go.Proofs.Ytdmidnmciaediaa
