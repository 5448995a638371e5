/- Layer 28: the contract of the document's SetLocal. Conditions: those stated. -/
import Derived.Test.YtdmidnmciaediaaWFrU
namespace Go.Proofs.Ytdmidnmciaediaa
open Go.RowKit
set_option linter.unusedVariables false
set_option linter.unusedSimpArgs false
attribute [local go_sem] over_cell over_frozen
variable {w0 w w' : World} {r : Nat} {q : PrV} {lv : Sl} {L : List FrM} {m : FrM}
set_option maxHeartbeats 1000000 in
theorem rset_none (h : DocF w0 w r q lv []) (k : Int) (v : ValM) : Calls Try.prog 71 #[rp r, .int .i64 k, aggV v] w fun e w' => e = .returned (.int .i64 6) ∧ Below w.heap.size w w' := by
  have HLO := Lib.hid (fun w' (hb : Below w.heap.size w w') => rloc_none (doc_below h hb) k)
  clear h
  unfold rp aggV at *
  try simp only at HLO
  go_enter Try.func71, Try.ntmps71
  go_upto_region 1 with fail
  refine wp_named ?_
  intro W hW
  have X0 : Blk W w.heap.size [.int .i64 v.k, .int .u64 v.b] := by rw [hW]; exact blk_new _ _ _
  have HX := Lib.hid X0
  have HBW := Lib.hid (show Below w.heap.size w W by rw [hW]; exact b_alloc (Below.refl _ _) _)
  clear hW X0
  go_wp2_with fail
  refine (HLO.out _ HBW.out).mono ?_
  rintro e w1 ⟨rfl, hb1⟩
  have HB1 := Lib.hid (b_call HBW.out hb1)
  obtain ⟨y0, y1, _⟩ := blk2 (blk_below HX.out hb1)
  have yz := (blk_below HX.out hb1).1
  clear hb1
  go_wp2_with fail
  go_ret
  exact ⟨rfl, b_alloc HB1.out _⟩
set_option maxHeartbeats 1000000 in
theorem rset_out (h : DocF w0 w r q lv (L ++ [m])) (hL : L.length ≤ 24) (k : Int) (hk : ¬ (0 ≤ k ∧ k < m.loc.length)) (v : ValM) : Calls Try.prog 71 #[rp r, .int .i64 k, aggV v] w fun e w' => e = .returned (.int .i64 3) ∧ Below w.heap.size w w' := by
  have HLO := Lib.hid (fun w' (hb : Below w.heap.size w w') => rloc_out (doc_below h hb) hL k hk)
  clear hk
  clear h
  unfold rp aggV at *
  try simp only at HLO
  go_enter Try.func71, Try.ntmps71
  go_upto_region 1 with fail
  refine wp_named ?_
  intro W hW
  have X0 : Blk W w.heap.size [.int .i64 v.k, .int .u64 v.b] := by rw [hW]; exact blk_new _ _ _
  have HX := Lib.hid X0
  have HBW := Lib.hid (show Below w.heap.size w W by rw [hW]; exact b_alloc (Below.refl _ _) _)
  clear hW X0
  go_wp2_with fail
  refine (HLO.out _ HBW.out).mono ?_
  rintro e w1 ⟨rfl, hb1⟩
  have HB1 := Lib.hid (b_call HBW.out hb1)
  obtain ⟨y0, y1, _⟩ := blk2 (blk_below HX.out hb1)
  have yz := (blk_below HX.out hb1).1
  clear hb1
  go_wp2_with fail
  go_ret
  exact ⟨rfl, b_alloc HB1.out _⟩
set_option maxHeartbeats 1000000 in
theorem rset_kind (h : DocF w0 w r q lv (L ++ [m])) (hL : L.length ≤ 24) (k : Nat) (hk : k < m.loc.length) (v : ValM) (hv : m.loc[k].k ≠ v.k) : Calls Try.prog 71 #[rp r, .int .i64 k, aggV v] w fun e w' => e = .returned (.int .i64 1) ∧ Below w.heap.size w w' := by
  have HLO := Lib.hid (fun w' (hb : Below w.heap.size w w') => rloc_any (doc_below h hb) hL k hk)
  have hvv : (m.loc[k].k != v.k) = true := bne_iff_ne.2 hv
  generalize m.loc[k] = x at *
  clear hv
  clear h
  unfold rp aggV at *
  try simp only at HLO
  go_enter Try.func71, Try.ntmps71
  go_upto_region 1 with fail
  refine wp_named ?_
  intro W hW
  have X0 : Blk W w.heap.size [.int .i64 v.k, .int .u64 v.b] := by rw [hW]; exact blk_new _ _ _
  have HX := Lib.hid X0
  have HBW := Lib.hid (show Below w.heap.size w W by rw [hW]; exact b_alloc (Below.refl _ _) _)
  clear hW X0
  go_wp2_with fail
  refine (HLO.out _ HBW.out).mono ?_
  rintro e w1 ⟨rfl, hb1⟩
  have HB1 := Lib.hid (b_call HBW.out hb1)
  obtain ⟨y0, y1, _⟩ := blk2 (blk_below HX.out hb1)
  have yz := (blk_below HX.out hb1).1
  clear hb1
  go_wp2_with fail
  go_ret
  exact ⟨rfl, b_alloc HB1.out _⟩
set_option maxRecDepth 100000 in
set_option maxHeartbeats 4000000 in
theorem rset_any (h : DocF w0 w r q lv (L ++ [m])) (hL : L.length ≤ 24) (k : Nat) (hk : k < m.loc.length) (v : ValM) (hvk : m.loc[k].k = v.k) (hlo : m.loc.length ≤ 100) : Calls Try.prog 71 #[rp r, .int .i64 k, aggV v] w (DSetEnd w0 w r q L ⟨m.f, m.at_, m.loc.set k v, m.stk⟩) := by
  have HLO := Lib.hid (fun w' (hb : Below w.heap.size w w') => rloc_any (doc_below h hb) hL k hk)
  have HVK := Lib.hid hvk
  obtain ⟨n1, n2, n3⟩ := doc_len h
  rw [List.length_append, List.length_singleton] at n1 n2
  obtain ⟨vb, vo, v9, ea, hvb, hv, c0, c1, c2, c3, e1, e2⟩ := doc_top h
  have HV := Lib.hid hv
  have HDD := Lib.hid h
  obtain ⟨va, vb', ⟨wa, wn, wcap⟩, ⟨ya, yn, yc⟩⟩ := v9
  obtain ⟨la, ln, lc⟩ := lv
  simp only at n1 n2 n3 ea c2 c3 e1 e2
  subst n1
  subst ea
  subst e1 e2
  have b4 := h.hd.2.1 4 (by simp)
  simp only [List.getElem_cons_succ, List.getElem_cons_zero] at b4
  have bz := h.hd.1
  have nl : (L.length : Int) ≤ 24 := by omega
  have ncl : (L.length : Int) < lc := by omega
  have wl : IntKind.i64.wrap (L.length : Int) = L.length := by rw [IntKind.wrap_i64]; omega
  have nl0 : (0 : Int) ≤ L.length := by omega
  have nll : (L.length : Int) < L.length + 1 := by omega
  have nz : ((L.length : Int) + 1 == 0) = false := beq_false_of_ne (by omega)
  have hvv : (m.loc[k].k != v.k) = false := by rw [hvk]; simp
  have HVO := Lib.hid hv
  have HLL := Lib.hid hL
  obtain ⟨LL, hLL⟩ : ∃ LL, LL = m.loc := ⟨_, rfl⟩
  have HLE := Lib.hid hLL
  have HLN : Hid (LL.length = m.loc.length) := Lib.hid (by rw [hLL])
  have k0 : (0 : Int) ≤ k := by omega
  have k1 : (k : Int) < m.loc.length := by omega
  have HLB := Lib.hid hlo
  have HLR : Hid (ReadR valE w (.slice wa m.loc.length wcap) LL) := Lib.hid (by rw [hLL]; exact hv.l)
  obtain ⟨xv, hxv⟩ : ∃ xv, xv = m.loc[k] := ⟨_, rfl⟩
  rw [← hxv] at HLO hvv
  have HKL := Lib.hid hk
  clear h n2 hL hv hk hvk hLL hxv HVK
  unfold rp aggV at *
  try simp only at HLO
  go_enter Try.func71, Try.ntmps71
  go_upto_region 1 with fail
  refine wp_named ?_
  intro W hW
  have X0 : Blk W w.heap.size [.int .i64 v.k, .int .u64 v.b] := by rw [hW]; exact blk_new _ _ _
  have HX := Lib.hid X0
  have HBW := Lib.hid (show Below w.heap.size w W by rw [hW]; exact b_alloc (Below.refl _ _) _)
  clear hW X0
  go_wp2_with fail
  refine (HLO.out _ HBW.out).mono ?_
  rintro e w1 ⟨rfl, hb1⟩
  have HB1 := Lib.hid (b_call HBW.out hb1)
  have HX1 := Lib.hid (blk_below HX.out hb1)
  clear hb1
  go_upto_region 2 with fail
  refine wp_named ?_
  intro W2 hW2
  have S2 : Blk W2 w1.heap.size [.int .i64 xv.k, .int .u64 xv.b] ∧ Below w1.heap.size w1 W2 := by
    rw [hW2]
    exact ⟨blk_new _ _ _, b_alloc (Below.refl _ _) _⟩
  have HX2 := Lib.hid (blk_below HX1.out S2.2)
  have HB2 := Lib.hid (b_call HB1.out S2.2)
  obtain ⟨y0, y1, _⟩ := blk2 HX2.out
  have yz := HX2.out.1
  obtain ⟨t0, t1, _⟩ := blk2 S2.1
  have tz := S2.1.1
  have b4' := ((bcell HB2.out).1 _ _ bz).trans b4
  have bz' := Nat.lt_of_lt_of_le bz HB2.out.size
  have c0' := ((bcell HB2.out).1 _ _ hvb).trans c0
  have c1' := ((bcell HB2.out).1 _ _ hvb).trans c1
  have c2' := ((bcell HB2.out).1 _ _ hvb).trans c2
  have c3' := ((bcell HB2.out).1 _ _ hvb).trans c3
  have hvb' := Nat.lt_of_lt_of_le hvb HB2.out.size
  clear hW2 S2 b4 bz c0 c1 c2 c3 hvb
  go_upto_region 6 with fail
  go_region
  refine thenF_named ?_
  intro W3 hW3
  have S3 : Blk W3 W2.heap.size [.int .i64 m.f, .int .i64 m.at_, .slice wa m.loc.length wcap, .slice ya m.stk.length yc] ∧ Below W2.heap.size W2 W3 := by
    rw [hW3]
    exact ⟨blk_new _ _ _, b_drew (b_alloc (Below.refl _ _) _)⟩
  have HTX : Hid (tyB W3 W2.heap.size = some RFT) := Lib.hid (by rw [hW3, tyB_drew]; exact tyB_new _ _ _)
  have HX3 := Lib.hid S3.1
  have HY3 := Lib.hid (blk_below HX2.out S3.2)
  have HB3 := Lib.hid (b_call HB2.out S3.2)
  have HLR3 := Lib.hid (readR_below HLR.out HB3.out)
  obtain ⟨x0, x1, x2, x3, xf⟩ := blk4 S3.1
  have xz := S3.1.1
  clear hW3 S3 y0 y1 yz t0 t1 tz b4' bz' c0' c1' c2' c3' hvb'
  go_upto_region 8 with (at_builtin; refine appendR (c := valE) rowVR rfl _ _ rfl W3.heap.size _ [] rfl (own_emptyR (Nat.le_refl _)) _ LL rfl (readR_below HLR3.out (b_alloc (Below.refl _ _) _)) ?c1 ?c2 ?c3 ?_; (case c1 => (have := HLN.out; have := HLB.out; simp only [List.length_nil]; omega)); (case c2 => (unfold maxLen; have := HLN.out; have := HLB.out; simp only [List.length_nil]; omega)); (case c3 => (simp)); intro v1 w4 hown4 hg4; rw [List.nil_append] at hown4)
  have hb4 : Below W3.heap.size W3 w4 := b_ownR (c := valE) (E := VRT) (L := []) (b_alloc (Below.refl W3.heap.size W3) _) (own_emptyR (Nat.le_refl _)) hg4
  obtain ⟨g4, cap4, rfl, f1, f2, f3, f4, f5⟩ := ownR_form hown4 (by have := HLN.out; have := HKL.out; omega)
  have HBK := Lib.hid f5
  have HTY : Hid (tyB w4 g4 = some VRT) := Lib.hid (ownR_ty hown4 g4 rfl)
  have HX4 := Lib.hid (blk_below HX3.out hb4)
  have HY4 := Lib.hid (blk_below HY3.out hb4)
  have HB4 := Lib.hid (b_call HB3.out hb4)
  have HTX4 : Hid (tyB w4 W2.heap.size = some RFT) := Lib.hid (tyB_call HTX.out hb4)
  have hgX : W3.heap.size ≤ g4 := f1
  have HC4 := Lib.hid (And.intro f3 f4)
  have hLk : k < LL.length := by have := HLN.out; have := HKL.out; omega
  have HLK := Lib.hid hLk
  have e0 := f5.2.1 (k * 2) (by rw [row_length]; show k * 2 < LL.length * 2; omega)
  have e1 := f5.2.1 (k * 2 + 1) (by rw [row_length]; show k * 2 + 1 < LL.length * 2; omega)
  have ef := f5.2.2
  have kL : (k : Int) < LL.length := by omega
  have kC : (k : Int) < cap4 := by omega
  generalize (valE.row LL)[k * 2]'_ = u0 at e0
  generalize (valE.row LL)[k * 2 + 1]'_ = u1 at e1
  have hneY : w.heap.size ≠ g4 := by have := HX3.out.1; have := HB2.out.size; have := HX.out.1; have h9 := HY3.out.1; omega
  have hneX : W2.heap.size ≠ g4 := by have := HX3.out.1; omega
  clear hown4 hg4 hb4 x0 x1 x2 x3 xf xz f2 f3 f4 f5 f1 hLk
  obtain ⟨y0, y1, _⟩ := blk2 HY4.out
  have yz := HY4.out.1
  go_upto_region 9 with fail
  refine wp_named ?_
  intro W5 hW5
  have g5 : W5 = (w4.setCell ⟨g4, k * 2, none⟩ (.int .i64 v.k)).setCell ⟨g4, k * 2 + 1, none⟩ (.int .u64 v.b) := hW5
  have S5 : Blk W5 g4 (valE.row (LL.set k v)) ∧ Blk W5 W2.heap.size [.int .i64 m.f, .int .i64 m.at_, .slice wa m.loc.length wcap, .slice ya m.stk.length yc] ∧ tyB W5 g4 = some VRT ∧ tyB W5 W2.heap.size = some RFT ∧ w4.grownBy W5 (some g4) := by
    rw [g5]
    refine ⟨blk_elt valE HBK.out HLK.out v, blk_other (blk_other HX4.out (fun e => hneX e.symm) _) (fun e => hneX e.symm) _, by rw [tyB_set, tyB_set]; exact HTY.out, by rw [tyB_set, tyB_set]; exact HTX4.out, gb_set (gb_set (gb_refl _ (some g4)) _ _ _) _ _ _⟩
  have HS5 := Lib.hid S5
  have HB5 : Hid (Below w.heap.size w W5) := Lib.hid (b_grown HB4.out S5.2.2.2.2 (by have := HB3.out.size; omega))
  obtain ⟨x0, x1, x2, x3, xf⟩ := blk4 S5.2.1
  have xz := S5.2.1.1
  clear hW5 g5 S5 e0 e1 ef y0 y1 yz
  go_upto_region 10 with fail
  refine wp_named ?_
  intro W6 hW6
  have S6 : Blk W6 W2.heap.size [.int .i64 m.f, .int .i64 m.at_, .slice (some ⟨g4, 0, none⟩) LL.length cap4, .slice ya m.stk.length yc] ∧ Blk W6 g4 (valE.row (LL.set k v)) ∧ tyB W6 g4 = some VRT ∧ Below w.heap.size w W6 := by
    rw [hW6]
    exact ⟨blk_set HS5.out.2.1 2 _, blk_other HS5.out.1 hneX _, by rw [tyB_set]; exact HS5.out.2.2.1, b_set HB5.out (p := ⟨W2.heap.size, 2, none⟩) (by have := HB2.out.size; show w.heap.size ≤ W2.heap.size; omega) _⟩
  have HS6 := Lib.hid S6
  have HB6 := Lib.hid S6.2.2.2
  clear hW6 x0 x1 x2 x3 xf xz
  obtain ⟨x0, x1, x2, x3, xf⟩ := blk4 S6.1
  have xz := S6.1.1
  obtain ⟨V, vx, hR, hl, hk9, _⟩ := doc_R2 HDD.out
  have HVV := Lib.hid (And.intro hl hk9)
  have HWI := Lib.hid (rwith_any (docR_below hR HB6.out) ⟨m.f, m.at_, ⟨some ⟨g4, 0, none⟩, LL.length, cap4⟩, ⟨ya, m.stk.length, yc⟩⟩ (by have := HLL.out; omega))
  unfold rp aggRf at HWI
  simp only at HWI
  clear hR hl hk9 S6
  go_wp2_with fail
  refine HWI.out.mono ?_
  rintro e w9 ⟨rfl, lv', hd', hg'⟩
  have HD9 := Lib.hid hd'
  have HG9' := Lib.hid hg'
  have HG9 := Lib.hid (gx_pre HB6.out hg')
  clear hd' hg' x0 x1 x2 x3 xf xz
  go_wp2_with fail
  go_ret
  have hok := rfOk_below HVO.out HB6.out
  have hrd : ReadR valE W6 (.slice (some ⟨g4, 0, none⟩) LL.length cap4) (LL.set k v) := by
    have z := readR_blk (c := valE) HS6.out.2.1 (cap := cap4) (by rw [List.length_set]; exact HC4.out.1) HC4.out.2
    rw [List.length_set] at z
    exact z
  rw [HLE.out] at hrd
  have hok2 : RfOk W6 ⟨m.f, m.at_, ⟨some ⟨g4, 0, none⟩, LL.length, cap4⟩, ⟨ya, m.stk.length, yc⟩⟩ ⟨m.f, m.at_, m.loc.set k v, m.stk⟩ := ⟨rfl, rfl, by rw [HLE.out]; exact hrd, Or.inr ⟨g4, rfl, HS6.out.2.2.1⟩, hok.s, hok.st⟩
  exact ⟨rfl, lv', doc_with HDD.out HG9.out HVV.out.1 HVV.out.2 HD9.out (rfOk_gx (tyB_call HDD.out.ty HB6.out) hok2 HG9'.out), HG9.out⟩
end Go.Proofs.Ytdmidnmciaediaa
