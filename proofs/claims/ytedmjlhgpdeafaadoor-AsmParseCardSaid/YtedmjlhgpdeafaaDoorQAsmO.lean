/- Layer 34: the document's fits. Conditions: the words read as strings, the program reads. -/
import Derived.Test.YtedmjlhgpdeafaaDoorQAsmN
namespace Go.Proofs.YtedmjlhgpdeafaaDoor
open Go.RowKit
set_option linter.unusedVariables false
set_option linter.unusedSimpArgs false
attribute [local go_sem] over_cell over_frozen
theorem gx_set4 (w : World) (gb o1 o2 o3 o4 : Nat) (u1 u2 u3 u4 : Value) : GrowX w ((((w.setCell ⟨gb, o1, none⟩ u1).setCell ⟨gb, o2, none⟩ u2).setCell ⟨gb, o3, none⟩ u3).setCell ⟨gb, o4, none⟩ u4) (fun j => j = gb) := by
  have h1 : GrowX w (w.setCell ⟨gb, o1, none⟩ u1) (fun j => j = gb) := gx_set (X := fun j => j = gb) (gx_refl _ _) (Or.inr rfl) _
  have h2 : GrowX w ((w.setCell ⟨gb, o1, none⟩ u1).setCell ⟨gb, o2, none⟩ u2) (fun j => j = gb) := gx_set (X := fun j => j = gb) h1 (Or.inr rfl) _
  have h3 : GrowX w (((w.setCell ⟨gb, o1, none⟩ u1).setCell ⟨gb, o2, none⟩ u2).setCell ⟨gb, o3, none⟩ u3) (fun j => j = gb) := gx_set (X := fun j => j = gb) h2 (Or.inr rfl) _
  exact gx_set (X := fun j => j = gb) h3 (Or.inr rfl) _
theorem ft_gx {w0 w w' : World} {u : Bool} {g s : Sl} {m : Int} {X : Nat → Prop} (h : FtAt w0 w u g m s) (hg : GrowX w w' X) (hx : ∀ j, X j → w0.heap.size + 2 ≤ j) : FtAt w0 w' u g m s :=
  ⟨blk_gx h.p hg (fun q => by have := hx _ q; omega), blk_gx h.r hg (fun q => by have := hx _ q; omega), b_gx h.be hg (fun j q => by have := hx _ q; omega)⟩
set_option maxRecDepth 100000 in
set_option maxHeartbeats 4000000 in
theorem fit_c_no {X : Nat → Prop} {w : World} {p : PrV} {P : PrM} {b o n cap : Nat} {a : List UInt8} (h : FtIn X w p P b o n cap a) {r : List (List UInt8)} (ha : (a == [102, 117, 110, 99]) = false) (hO : ∀ w', Below w.heap.size w w' → Calls Tryd.prog 69 #[.slice (some ⟨b, o, none⟩) n cap] w' fun e w'' => OneEnd a r e ∧ Below w'.heap.size w' w'') (hbad : instrL a r = none ∨ P.fs = []) : Calls Tryd.prog 49 #[aggP p, .slice (some ⟨b, o, none⟩) n cap, .int .i64 3] w (FitEnd34 X (none) w) := by
  obtain ⟨pu, ⟨ga, gn, gc⟩, pm, ⟨fa, fn, fc⟩⟩ := p
  have hn1 := h.n1
  have hnc := h.nc
  have hcm := h.cm
  have hb := h.hb
  have hc0 := h.c0
  have HRD := Lib.hid h.rd
  have HX := Lib.hid h.xx
  have HCC := Lib.hid (fun (w' : World) (hw : Below w.heap.size w w') => ((And.intro (((bcell hw).1 b _ hb).trans hc0) (Nat.lt_of_lt_of_le hb hw.size)) : w'.cell? ⟨b, o, none⟩ = some (.string ⟨a.toArray⟩) ∧ b < w'.heap.size))
  clear h
  have hn0 : (0 : Int) < n := by omega
  unfold aggP Sl.v
  simp only
  go_enter Tryd.func49, Tryd.ntmps49
  go_upto_region 1 with fail
  refine wp_named ?_
  intro W1 hW1
  have HA : Hid (FtAt w W1 pu ⟨ga, gn, gc⟩ pm ⟨fa, fn, fc⟩) := Lib.hid (by rw [hW1]; exact ft_start w _ _ _ _ rfl rfl)
  clear hW1
  obtain ⟨c0, bz⟩ := HCC.out _ HA.out.be
  obtain ⟨p0, p1, p2, p3, pf⟩ := blk4 HA.out.p
  simp only [Sl.v] at p1 p3
  have pz := HA.out.p.1
  obtain ⟨r0, r1, r2, r3, rf⟩ := blk4 HA.out.r
  have rz := HA.out.r.1
  have hfl : P.fs = [] → ((fn : Int) == 0) = true := fun q => by
    obtain ⟨L, hL⟩ := HRD.out.f
    obtain ⟨h1, h2⟩ := hL w (gx_refl _ _)
    have h1 : ReadR fnE w (.slice fa fn fc) L := h1
    obtain ⟨_, _, e, _, _⟩ := readR_len h1
    injection e with _ e _
    rw [e, allF_len h2, q]; rfl
  have HFL := Lib.hid hfl
  clear hfl
  go_wp2_with fail
  refine (hO _ HA.out.be).mono ?_
  rintro e w2 ⟨⟨vo, vx, va, vb, rfl, hi2⟩, hb2⟩
  have HI2 := Lib.hid hi2
  clear p0 p1 p2 p3 pf pz r0 r1 r2 r3 rf rz
  go_upto_region 28 with fail
  refine wp_named ?_
  intro W3 hW3
  have HSZ : Hid (w.heap.size + 2 ≤ w2.heap.size) := Lib.hid (by have := HA.out.r.1; have := hb2.size; omega)
  have HA3 : Hid (FtAt w W3 pu ⟨ga, gn, gc⟩ pm ⟨fa, fn, fc⟩) := Lib.hid (by rw [hW3]; exact ft_below (ft_below HA.out hb2) (b_alloc (Below.refl _ _) _))
  have HX3 : Hid (Blk W3 w2.heap.size [.int .i64 vo, .int .u64 vx, .int .i64 va, .int .i64 vb]) := Lib.hid (by rw [hW3]; exact blk_new _ _ _)
  clear hW3 hb2 hi2 HA c0 bz
  have HA := HA3
  clear HA3
  obtain ⟨p0, p1, p2, p3, pf⟩ := blk4 HA.out.p
  simp only [Sl.v] at p1 p3
  have pz := HA.out.p.1
  obtain ⟨r0, r1, r2, r3, rf⟩ := blk4 HA.out.r
  have rz := HA.out.r.1
  cases hq : (instrL a r).isSome with
  | false =>
    go_wp2_with fail
    refine post_named ?_
    intro wF hwF
    have BF := Lib.hid (ft_fin HA.out)
    have HWF : Hid (wF = ftFin _ (w.heap.size + 1) pu ⟨ga, gn, gc⟩ pm ⟨fa, fn, fc⟩) := Lib.hid hwF
    rw [← HWF.out] at BF
    clear hwF
    obtain ⟨q0, q1, q2, q3, _⟩ := blk4 BF.out.1
    refine bodyPost_ret (v := .tuple #[.agg #[.bool pu, .slice ga gn gc, .int .i64 pm, .slice fa fn fc], .int .i64 (-1)]) (by simp [results, Tryd.results49, go_sem, q0, q1, q2, q3, Sl.v]) rfl ⟨⟨pu, ⟨ga, gn, gc⟩, pm, ⟨fa, fn, fc⟩⟩, -1, rfl, BF.out.2.1, ?_⟩
    exact ⟨(fun _ => rfl), fun P' j q => by cases q⟩
  | true =>
    have hn0' : ((fn : Int) == 0) = true := HFL.out (by
      rcases hbad with q | q
      · rw [q] at hq; cases hq
      · exact q)
    go_wp2_with fail
    refine post_named ?_
    intro wF hwF
    have BF := Lib.hid (ft_fin HA.out)
    have HWF : Hid (wF = ftFin _ (w.heap.size + 1) pu ⟨ga, gn, gc⟩ pm ⟨fa, fn, fc⟩) := Lib.hid hwF
    rw [← HWF.out] at BF
    clear hwF
    obtain ⟨q0, q1, q2, q3, _⟩ := blk4 BF.out.1
    refine bodyPost_ret (v := .tuple #[.agg #[.bool pu, .slice ga gn gc, .int .i64 pm, .slice fa fn fc], .int .i64 (-1)]) (by simp [results, Tryd.results49, go_sem, q0, q1, q2, q3, Sl.v]) rfl ⟨⟨pu, ⟨ga, gn, gc⟩, pm, ⟨fa, fn, fc⟩⟩, -1, rfl, BF.out.2.1, ?_⟩
    exact ⟨(fun _ => rfl), fun P' j q => by cases q⟩
set_option maxRecDepth 100000 in
set_option maxHeartbeats 4000000 in
theorem fit_c {X : Nat → Prop} {w : World} {p : PrV} {P : PrM} {b o n cap : Nat} {a : List UInt8} (h : FtIn X w p P b o n cap a) {r : List (List UInt8)} (ha : (a == [102, 117, 110, 99]) = false) (hO : ∀ w', Below w.heap.size w w' → Calls Tryd.prog 69 #[.slice (some ⟨b, o, none⟩) n cap] w' fun e w'' => OneEnd a r e ∧ Below w'.heap.size w' w'') {i : In4} (hi : instrL a r = some i) (hfs : P.fs ≠ []) (hl1 : P.fs.length ≤ 1000000) (hl2 : ∀ f ∈ P.fs, f.code.length ≤ 1000000) : Calls Tryd.prog 49 #[aggP p, .slice (some ⟨b, o, none⟩) n cap, .int .i64 3] w (FitEnd34 X (some ({ P with fs := addLast P.fs i }, 3)) w) := by
  obtain ⟨pu, ⟨ga, gn, gc⟩, pm, ⟨fa, fn, fc⟩⟩ := p
  have hn1 := h.n1
  have hnc := h.nc
  have hcm := h.cm
  have hb := h.hb
  have hc0 := h.c0
  have HRD := Lib.hid h.rd
  have HX := Lib.hid h.xx
  have HCC := Lib.hid (fun (w' : World) (hw : Below w.heap.size w w') => ((And.intro (((bcell hw).1 b _ hb).trans hc0) (Nat.lt_of_lt_of_le hb hw.size)) : w'.cell? ⟨b, o, none⟩ = some (.string ⟨a.toArray⟩) ∧ b < w'.heap.size))
  clear h
  have hn0 : (0 : Int) < n := by omega
  unfold aggP Sl.v
  simp only
  go_enter Tryd.func49, Tryd.ntmps49
  go_upto_region 1 with fail
  refine wp_named ?_
  intro W1 hW1
  have HA : Hid (FtAt w W1 pu ⟨ga, gn, gc⟩ pm ⟨fa, fn, fc⟩) := Lib.hid (by rw [hW1]; exact ft_start w _ _ _ _ rfl rfl)
  clear hW1
  obtain ⟨c0, bz⟩ := HCC.out _ HA.out.be
  obtain ⟨L, hLL⟩ := HRD.out.f
  obtain ⟨hRL, hAF⟩ := hLL w (gx_refl _ _)
  have hRL : ReadR fnE w (.slice fa fn fc) L := hRL
  have hLn : L.length = P.fs.length := allF_len hAF
  obtain ⟨_, _, e0, hfc, hfm⟩ := readR_len hRL
  injection e0 with e1 e2 e3
  subst e1 e3
  have hL1 : L ≠ [] := fun q => by
    rw [q] at hLn
    exact hfs (List.eq_nil_of_length_eq_zero hLn.symm)
  obtain ⟨L0, v, hLv⟩ : ∃ L0 v, L = L0 ++ [v] := ⟨L.dropLast, L.getLast hL1, (List.dropLast_concat_getLast hL1).symm⟩
  have hAF2 := hAF
  rw [hLv] at hAF2
  obtain ⟨fs0, m, hfsm, hA0, hDm⟩ := allF_split hAF2
  have HNL : Hid (L.length = fn) := Lib.hid e2.symm
  have HLV := Lib.hid hLv
  have HRL : Hid (∀ w', Below w.heap.size w w' → ReadR fnE w' (.slice fa fn fc) L) := Lib.hid (fun w' hw => readR_below hRL hw)
  have HFS := Lib.hid hfsm
  have HA0 : Hid (∀ w'', GrowX w w'' X → AllF w'' L0 fs0 ∧ DeepF w'' v m) := Lib.hid (fun w'' hg => by
    have q := (hLL w'' hg).2
    rw [hLv, hfsm] at q
    exact allF_split2 q)
  have HDM := Lib.hid hDm
  have HLL : Hid (L.length ≤ 1000000) := Lib.hid (by rw [hLn]; exact hl1)
  have HML : Hid (m.code.length ≤ 1000000) := Lib.hid (hl2 m (by rw [hfsm]; simp))
  have hN1 : fn - 1 = L0.length := by rw [e2, hLv]; simp
  have hN0 : 1 ≤ fn := by rw [e2, hLv]; simp
  have hnz : ((fn : Int) == 0) = false := beq_false_of_ne (by omega)
  have HNC : Hid (fn ≤ fc ∧ fc ≤ maxLen) := Lib.hid (by rw [e2]; exact ⟨hfc, hfm⟩)
  have hok : (instrL a r).isSome = true := by rw [hi]; rfl
  have HI := Lib.hid hi
  obtain ⟨⟨pa, pn, pc⟩, ⟨xa, xn, xc⟩, vr, ⟨ca, cn, cc⟩⟩ := v
  clear hLL hRL hAF hAF2 hLn hLv hfc hfm e2 hL1 hfsm hA0 hDm hi hfs hl1 hl2
  obtain ⟨p0, p1, p2, p3, pf⟩ := blk4 HA.out.p
  simp only [Sl.v] at p1 p3
  have pz := HA.out.p.1
  obtain ⟨r0, r1, r2, r3, rf⟩ := blk4 HA.out.r
  have rz := HA.out.r.1
  go_wp2_with fail
  refine (hO _ HA.out.be).mono ?_
  rintro e w2 ⟨⟨vo, vx, va, vb, rfl, hi2⟩, hb2⟩
  have HI2 := Lib.hid hi2
  clear p0 p1 p2 p3 pf pz r0 r1 r2 r3 rf rz
  go_upto_region 28 with fail
  refine wp_named ?_
  intro W3 hW3
  have HSZ : Hid (w.heap.size + 2 ≤ w2.heap.size) := Lib.hid (by have := HA.out.r.1; have := hb2.size; omega)
  have HA3 : Hid (FtAt w W3 pu ⟨ga, gn, gc⟩ pm ⟨fa, fn, fc⟩) := Lib.hid (by rw [hW3]; exact ft_below (ft_below HA.out hb2) (b_alloc (Below.refl _ _) _))
  have HX3 : Hid (Blk W3 w2.heap.size [.int .i64 vo, .int .u64 vx, .int .i64 va, .int .i64 vb]) := Lib.hid (by rw [hW3]; exact blk_new _ _ _)
  clear hW3 hb2 hi2 HA c0 bz
  have HA := HA3
  clear HA3
  obtain rfl := HI2.out _ HI.out
  obtain ⟨p0, p1, p2, p3, pf⟩ := blk4 HA.out.p
  simp only [Sl.v] at p1 p3
  have pz := HA.out.p.1
  obtain ⟨r0, r1, r2, r3, rf⟩ := blk4 HA.out.r
  have rz := HA.out.r.1
  go_upto_region 30 with fail
  clear p0 p1 p2 p3 pf pz r0 r1 r2 r3 rf rz
  obtain ⟨p0, p1, p2, p3, pf⟩ := blk4 HA.out.p
  simp only [Sl.v] at p1 p3
  have pz := HA.out.p.1
  obtain ⟨r0, r1, r2, r3, rf⟩ := blk4 HA.out.r
  have rz := HA.out.r.1
  go_upto_region 31 with (at_builtin; refine appendR (c := fnE) rowFn rfl _ _ rfl W3.heap.size _ [] rfl (own_emptyR (Nat.le_refl _)) _ L rfl (HRL.out _ (b_alloc HA.out.be _)) ?c1 ?c2 ?c3 ?_; (case c1 => (have := HLL.out; simp only [List.length_nil]; omega)); (case c2 => (have := HLL.out; unfold maxLen; simp only [List.length_nil]; omega)); (case c3 => (simp only [World.size_alloc]; omega)); intro v4 w4 hown4 hg4)
  have HB4 : Hid (Below W3.heap.size W3 w4) := Lib.hid (b_ownR (c := fnE) (L := []) (b_alloc (Below.refl _ _) _) (own_emptyR (c := fnE) (Nat.le_refl _)) hg4)
  rw [List.nil_append] at hown4
  obtain ⟨gr, cr, hv4, g1, g2, g3, g4, g5⟩ := ownR_form hown4 (by have := HNL.out; omega)
  rw [HNL.out] at hv4 g3
  rw [HLV.out] at g5
  subst hv4
  clear p0 p1 p2 p3 pf pz r0 r1 r2 r3 rf rz
  have HR4 := Lib.hid g5
  have HGR0 : Hid (w.heap.size + 2 ≤ gr ∧ gr < w4.heap.size) := Lib.hid ⟨by have := HSZ.out; have := HX3.out.1; omega, g2⟩
  have HW4 : Hid (w.heap.size + 2 ≤ w4.heap.size) := Lib.hid (by have := HGR0.out; omega)
  have HA4 := Lib.hid (ft_below HA.out HB4.out)
  have HX4 := Lib.hid (blk_below HX3.out HB4.out)
  have hcr := cap_le g4
  have HG4 := Lib.hid (And.intro g3 g4)
  obtain ⟨⟨l0, l1, l2, l3⟩, lf⟩ := blk_lasts g5
  simp only [Sl.v] at l0 l1 l2 l3
  clear hown4 hg4 g1 g4 g5 HA
  go_upto_region 32 with fail
  refine wp_named ?_
  intro W6 hW6
  have HF6 : Hid (Blk W6 w4.heap.size [.slice pa pn pc, .slice xa xn xc, .int .i64 vr, .slice ca cn cc]) := Lib.hid (by rw [hW6]; exact blk_new _ _ _)
  have HB6 : Hid (Below w4.heap.size w4 W6) := Lib.hid (by rw [hW6]; exact b_alloc (Below.refl _ _) _)
  clear hW6 l0 l1 l2 l3 lf
  have HA6 := Lib.hid (ft_below HA4.out HB6.out)
  have HX6 := Lib.hid (blk_below HX4.out HB6.out)
  have HR6 := Lib.hid (blk_below HR4.out HB6.out)
  have HGR : Hid (w.heap.size + 2 ≤ gr ∧ gr < w4.heap.size) := HGR0
  have hDc : ReadR inE w (.slice ca cn cc) m.code := HDM.out.c
  have HXR : Hid (ReadR inE W6 (.slice ca cn cc) m.code) := Lib.hid (readR_below hDc HA6.out.be)
  have HFIN : Hid (∀ (w7 w8 w9 wF : World) (g cap : Nat), OwnR inE 42 w7 W6.heap.size (.slice (some ⟨g, 0, none⟩) (m.code.length + 1) cap) (m.code ++ [⟨vo, vx, va, vb⟩]) → GrowX w7 w8 (fun j => j = gr) → Blk w8 gr (fnE.row (L0 ++ [⟨⟨pa, pn, pc⟩, ⟨xa, xn, xc⟩, vr, ⟨some ⟨g, 0, none⟩, m.code.length + 1, cap⟩⟩])) → GrowX w8 w9 (fun j => j < w.heap.size + 2) → GrowX w9 wF (fun j => j < w.heap.size + 2) → Below w.heap.size w wF → ∃ LL, ∀ w'', GrowX wF w'' X → ReadR fnE w'' (.slice (some ⟨gr, 0, none⟩) fn cr) LL ∧ AllF w'' LL (addLast P.fs ⟨vo, vx, va, vb⟩)) := Lib.hid (fun w7 w8 w9 wF g cap how h78 hR h89 h9F hbF => by
    have h6 : w4.heap.size < W6.heap.size := HF6.out.1
    have hgr := HGR.out
    have hown : ∀ k, (Value.slice (some ⟨g, 0, none⟩) (m.code.length + 1) cap).ownBlock = some k → W6.heap.size ≤ k := fun k hk => (ownR_lt how k hk).1
    have how2 := ownR_gx (ownR_gx (ownR_gx how h78 (fun k hk q => by have := hown k hk; omega)) h89 (fun k hk q => by have := hown k hk; omega)) h9F (fun k hk q => by have := hown k hk; omega)
    have hR2 := blk_gx (blk_gx hR h89 (fun q => by omega)) h9F (fun q => by omega)
    have hlen : (L0 ++ ([⟨⟨pa, pn, pc⟩, ⟨xa, xn, xc⟩, vr, ⟨some ⟨g, 0, none⟩, m.code.length + 1, cap⟩⟩] : List FnV)).length = fn := by rw [← HNL.out, HLV.out]; simp
    rw [HFS.out, addLast_snoc]
    refine ⟨L0 ++ ([⟨⟨pa, pn, pc⟩, ⟨xa, xn, xc⟩, vr, ⟨some ⟨g, 0, none⟩, m.code.length + 1, cap⟩⟩] : List FnV), fun w'' hg => ?_⟩
    have hgx : ∀ k, X k → k < w.heap.size := HX.out
    have hrd := readR_blk (c := fnE) (cap := cr) (blk_gx hR2 hg (fun q => by have := hgx _ q; omega)) (by rw [hlen]; exact HG4.out.1) HG4.out.2
    rw [hlen] at hrd
    obtain ⟨h0, hd⟩ := HA0.out w'' (gx_pre hbF hg)
    have hD : DeepF w'' ⟨⟨pa, pn, pc⟩, ⟨xa, xn, xc⟩, vr, ⟨some ⟨g, 0, none⟩, m.code.length + 1, cap⟩⟩ (addI m ⟨vo, vx, va, vb⟩) := ⟨hd.p, hd.l, hd.r, ownR_read (ownR_gx how2 hg (fun k hk q => by have := hgx _ q; have := hown k hk; omega))⟩
    exact ⟨hrd, allF_snoc hD h0⟩)
  have HS : Hid (∀ w', Below W6.heap.size W6 w' → (w'.cell? ⟨w4.heap.size, 3, none⟩ = some (.slice ca cn cc) ∧ w'.cell? ⟨w2.heap.size, 0, none⟩ = some (.int .i64 vo) ∧ w'.cell? ⟨w2.heap.size, 1, none⟩ = some (.int .u64 vx) ∧ w'.cell? ⟨w2.heap.size, 2, none⟩ = some (.int .i64 va) ∧ w'.cell? ⟨w2.heap.size, 3, none⟩ = some (.int .i64 vb))) := Lib.hid (fun w' hw => by
    obtain ⟨z0, z1, z2, z3, _⟩ := blk4 (blk_below HX6.out hw)
    exact ⟨(blk4 (blk_below HF6.out hw)).2.2.2.1, z0, z1, z2, z3⟩)
  clear hDc
  go_cut [18, 19] (fun s18 s19 wz => s18 = .slice (some ⟨gr, 0, none⟩) fn cr ∧ s19 = .pointer (some ⟨w4.heap.size, 0, none⟩) ∧ ∃ (g cap : Nat), Hid (Blk wz w4.heap.size [.slice pa pn pc, .slice xa xn xc, .int .i64 vr, .slice (some ⟨g, 0, none⟩) (m.code.length + 1) cap]) ∧ Hid (Blk wz gr (fnE.row (L0 ++ [⟨⟨pa, pn, pc⟩, ⟨xa, xn, xc⟩, vr, ⟨ca, cn, cc⟩⟩]))) ∧ Hid (FtAt w wz pu ⟨ga, gn, gc⟩ pm ⟨fa, fn, fc⟩) ∧ Hid (OwnR inE 42 wz W6.heap.size (.slice (some ⟨g, 0, none⟩) (m.code.length + 1) cap) (m.code ++ [⟨vo, vx, va, vb⟩])))
  case first =>
    refine wp_region_E (S := fun w' => w'.cell? ⟨w4.heap.size, 3, none⟩ = some (.slice ca cn cc) ∧ w'.cell? ⟨w2.heap.size, 0, none⟩ = some (.int .i64 vo) ∧ w'.cell? ⟨w2.heap.size, 1, none⟩ = some (.int .u64 vx) ∧ w'.cell? ⟨w2.heap.size, 2, none⟩ = some (.int .i64 va) ∧ w'.cell? ⟨w2.heap.size, 3, none⟩ = some (.int .i64 vb)) 8 (by kernel_rfl) (HS.out _ (b_drew (Below.refl _ _))) (fun hHeld => ?_)
    (refine wpAnyE_take (n := 12) (i := 1) (v := ?_) rfl (by kernel_rfl) (by kernel_rfl) (by kernel_rfl) (by kernel_rfl) (by kernel_rfl) (fun _ _ _ h => h) (Or.inl ⟨by rfl, ?_⟩) hHeld ?_; rotate_left; (focus (intro w hSw; (try dsimp only at hSw); go_simp; try (with_reducible rfl))); (try simp only [Act.put, List.getElem_toArray, List.getElem_cons_succ, List.getElem_cons_zero, List.setIfInBounds_toArray, List.set_cons_zero, List.set_cons_succ]))
    (refine wpAnyE_take (n := 12) (i := 2) (v := ?_) rfl (by kernel_rfl) (by kernel_rfl) (by kernel_rfl) (by kernel_rfl) (by kernel_rfl) (fun _ _ _ h => h) (Or.inl ⟨by rfl, ?_⟩) hHeld ?_; rotate_left; (focus (intro w hSw; (try dsimp only at hSw); go_simp; try (with_reducible rfl))); (try simp only [Act.put, List.getElem_toArray, List.getElem_cons_succ, List.getElem_cons_zero, List.setIfInBounds_toArray, List.set_cons_zero, List.set_cons_succ]))
    (refine wpAnyE_take (n := 12) (i := 4) (v := ?_) rfl (by kernel_rfl) (by kernel_rfl) (by kernel_rfl) (by kernel_rfl) (by kernel_rfl) (fun _ _ _ h => h) (Or.inl ⟨by rfl, ?_⟩) hHeld ?_; rotate_left; (focus (intro w hSw; (try dsimp only at hSw); go_simp; try (with_reducible rfl))); (try simp only [Act.put, List.getElem_toArray, List.getElem_cons_succ, List.getElem_cons_zero, List.setIfInBounds_toArray, List.set_cons_zero, List.set_cons_succ]))
    refine wpAnyE_named ?_
    intro q0 hq0
    have HBq0 : Hid (Below W6.heap.size W6 q0) := Lib.hid (by rw [hq0]; exact b_drew (Below.refl _ _))
    clear hq0
    replace hHeld := HS.out _ HBq0.out
    refine wpAnyE_ready (rs := [0, 5]) (by kernel_rfl) (by simp) (AllReadyE.cons rfl (fun K hK => ?_) (AllReadyE.cons rfl (fun K hK => ?_) (AllReadyE.nil)))
    · skip
      go_simp
      refine hK.out _ _ (HS.out _ (b_alloc HBq0.out _)) (fun hHeld => ?_)
      clear hK K
      (try simp only [Act.put, List.getElem_toArray, List.getElem_cons_succ, List.getElem_cons_zero, List.setIfInBounds_toArray, List.set_cons_zero, List.set_cons_succ])
      refine wpAnyE_named ?_
      intro q1 hq1
      have HBq1 : Hid (Below W6.heap.size W6 q1) := Lib.hid (by rw [hq1]; exact b_alloc HBq0.out _)
      obtain ⟨B, hB⟩ : ∃ x, x = q0.heap.size := ⟨_, rfl⟩
      rw [← hB]
      have OWq1 : Hid (OwnR inE 42 q1 W6.heap.size (.slice (some ⟨B, 0, none⟩) 0 0) []) := Lib.hid (by rw [hq1, hB]; exact own_emptyR HBq0.out.size)
      clear hq1 hB
      replace hHeld := HS.out _ HBq1.out
      refine wpAnyE_ready (rs := [3, 5]) (by kernel_rfl) (by simp) (AllReadyE.cons rfl (fun K hK => ?_) (AllReadyE.cons rfl (fun K hK => ?_) (AllReadyE.nil)))
      · skip
        refine step_appendR rowRIn (by rfl) _ _ (by rfl) W6.heap.size _ [] (by rfl) OWq1.out _ m.code (by rfl) (readR_below HXR.out HBq1.out) (by (have := HML.out); simp only [List.length_nil]; omega) (by (have := HML.out); simp only [List.length_nil]; unfold maxLen; omega) HBq1.out.size ?_
        intro V1 q2 ownq2 hgq2
        rw [List.nil_append] at ownq2
        have HBq2 := Lib.hid (b_ownR HBq1.out OWq1.out hgq2)
        have OWq2 := Lib.hid ownq2
        clear ownq2 hgq2
        refine hK.out _ _ (HS.out _ HBq2.out) (fun hHeld => ?_)
        clear hK K
        (try simp only [Act.put, List.getElem_toArray, List.getElem_cons_succ, List.getElem_cons_zero, List.setIfInBounds_toArray, List.set_cons_zero, List.set_cons_succ])
        refine wpAnyE_ready (rs := [5]) (by kernel_rfl) (by simp) (AllReadyE.cons rfl (fun K hK => ?_) AllReadyE.nil)
        go_simp
        refine hK.out _ _ (HS.out _ (b_alloc HBq2.out _)) (fun hHeld => ?_)
        clear hK K
        (try simp only [Act.put, List.getElem_toArray, List.getElem_cons_succ, List.getElem_cons_zero, List.setIfInBounds_toArray, List.set_cons_zero, List.set_cons_succ])
        refine wpAnyE_named ?_
        intro q3 hq3
        have HBq3 : Hid (Below W6.heap.size W6 q3) := Lib.hid (by rw [hq3]; exact b_alloc HBq2.out _)
        obtain ⟨Y, hY⟩ : ∃ x, x = q2.heap.size := ⟨_, rfl⟩
        rw [← hY]
        have HYq3 : Hid (Blk q3 Y [.int .i64 vo, .int .u64 vx, .int .i64 va, .int .i64 vb]) := Lib.hid (by rw [hq3]; exact blk_new3 hY)
        have OWq3 : Hid (OwnR inE 42 q3 W6.heap.size V1 m.code) := Lib.hid (by rw [hq3]; exact ownR_alloc OWq2.out _)
        clear hq3 hY
        replace hHeld := HS.out _ HBq3.out
        refine wpAnyE_ready (rs := [6]) (by kernel_rfl) (by simp) (AllReadyE.cons rfl (fun K hK => ?_) AllReadyE.nil)
        refine step_append1 rowRIn (by rfl) _ _ (by rfl) (by rfl) (B := W6.heap.size) OWq3.out ⟨vo, vx, va, vb⟩ Y 1 (by rfl) HYq3.out (by (have := HML.out); omega) (by (have := HML.out); unfold maxLen; omega) HBq3.out.size ?_
        intro g cap q4 ownq4 hgq4 horq4 hlq4
        have HBq4 := Lib.hid (b_ownR HBq3.out OWq3.out hgq4)
        have OWq4 := Lib.hid ownq4
        clear ownq4 hgq4 horq4 hlq4
        refine hK.out _ _ (HS.out _ HBq4.out) (fun hHeld => ?_)
        clear hK K
        (try simp only [Act.put, List.getElem_toArray, List.getElem_cons_succ, List.getElem_cons_zero, List.setIfInBounds_toArray, List.set_cons_zero, List.set_cons_succ])
        (refine wpAnyE_take (n := 12) (i := 7) (v := ?_) rfl (by kernel_rfl) (by kernel_rfl) (by kernel_rfl) (by kernel_rfl) (by kernel_rfl) (fun _ _ _ h => h) (Or.inl ⟨by rfl, ?_⟩) hHeld ?_; rotate_left; (focus (intro w hSw; (try dsimp only at hSw); go_simp; try (with_reducible rfl))); (try simp only [Act.put, List.getElem_toArray, List.getElem_cons_succ, List.getElem_cons_zero, List.setIfInBounds_toArray, List.set_cons_zero, List.set_cons_succ]))
        have hp3 := blk_below HF6.out HBq4.out
        have p3 := hp3.2.1 3 (by simp)
        have pf := hp3.2.2
        have pz := hp3.1
        clear hp3
        refine wpAnyE_ready (rs := [8]) (by kernel_rfl) (by simp) (AllReadyE.last rfl (fun K hK => ?_))
        go_simp
        refine hK.out _ _ (trivial) (fun hHeld => ?_)
        clear hK K
        (try simp only [Act.put, List.getElem_toArray, List.getElem_cons_succ, List.getElem_cons_zero, List.setIfInBounds_toArray, List.set_cons_zero, List.set_cons_succ])
        refine wpAnyE_done (by kernel_rfl) ?_
        clear p3 pf pz
        refine thenF_named ?_
        intro w7 hw7
        have HF7 : Hid (Blk w7 w4.heap.size [.slice pa pn pc, .slice xa xn xc, .int .i64 vr, .slice (some ⟨g, 0, none⟩) (m.code.length + 1) cap]) := Lib.hid (by rw [hw7]; exact blk_set (blk_below HF6.out HBq4.out) 3 _)
        have HG7 : Hid (GrowX q4 w7 (fun j => w.heap.size + 2 ≤ j ∧ j = w4.heap.size)) := Lib.hid (by rw [hw7]; exact gx_set (gx_refl _ _) (Or.inr ⟨HW4.out, rfl⟩) _)
        clear hw7 hHeld
        have HR7 : Hid (Blk w7 gr (fnE.row (L0 ++ [⟨⟨pa, pn, pc⟩, ⟨xa, xn, xc⟩, vr, ⟨ca, cn, cc⟩⟩]))) := Lib.hid (blk_gx (blk_below HR6.out HBq4.out) HG7.out (fun q => by have := HGR.out.2; omega))
        have HA7 : Hid (FtAt w w7 pu ⟨ga, gn, gc⟩ pm ⟨fa, fn, fc⟩) := Lib.hid (ft_gx (ft_below HA6.out HBq4.out) HG7.out (fun j q => q.1))
        have HO7 : Hid (OwnR inE 42 w7 W6.heap.size (.slice (some ⟨g, 0, none⟩) (m.code.length + 1) cap) (m.code ++ [⟨vo, vx, va, vb⟩])) := Lib.hid (ownR_gx OWq4.out HG7.out (fun k hk q => by have := (ownR_lt OWq4.out k hk).1; have := HF6.out.1; omega))
        clear HG7
        go_wp2_with fail
        go_meet
        case rel => exact ⟨rfl, rfl, g, cap, HF7, HR7, HA7, HO7⟩
      · skip
        go_simp
        refine hK.out _ _ (HS.out _ (b_alloc HBq1.out _)) (fun hHeld => ?_)
        clear hK K
        (try simp only [Act.put, List.getElem_toArray, List.getElem_cons_succ, List.getElem_cons_zero, List.setIfInBounds_toArray, List.set_cons_zero, List.set_cons_succ])
        refine wpAnyE_named ?_
        intro q5 hq5
        have HBq5 : Hid (Below W6.heap.size W6 q5) := Lib.hid (by rw [hq5]; exact b_alloc HBq1.out _)
        obtain ⟨Y, hY⟩ : ∃ x, x = q1.heap.size := ⟨_, rfl⟩
        rw [← hY]
        have HYq5 : Hid (Blk q5 Y [.int .i64 vo, .int .u64 vx, .int .i64 va, .int .i64 vb]) := Lib.hid (by rw [hq5]; exact blk_new3 hY)
        have OWq5 : Hid (OwnR inE 42 q5 W6.heap.size (.slice (some ⟨B, 0, none⟩) 0 0) []) := Lib.hid (by rw [hq5]; exact ownR_alloc OWq1.out _)
        have HNE : Hid (Y ≠ B) := Lib.hid (by have := (ownR_lt OWq1.out B rfl).2; omega)
        clear hq5 hY
        replace hHeld := HS.out _ HBq5.out
        refine wpAnyE_ready (rs := [3]) (by kernel_rfl) (by simp) (AllReadyE.cons rfl (fun K hK => ?_) AllReadyE.nil)
        refine step_appendR rowRIn (by rfl) _ _ (by rfl) W6.heap.size _ [] (by rfl) OWq5.out _ m.code (by rfl) (readR_below HXR.out HBq5.out) (by (have := HML.out); simp only [List.length_nil]; omega) (by (have := HML.out); simp only [List.length_nil]; unfold maxLen; omega) HBq5.out.size ?_
        intro V1 q6 ownq6 hgq6
        rw [List.nil_append] at ownq6
        have HBq6 := Lib.hid (b_ownR HBq5.out OWq5.out hgq6)
        have OWq6 := Lib.hid ownq6
        have HYq6 : Hid (Blk q6 Y [.int .i64 vo, .int .u64 vx, .int .i64 va, .int .i64 vb]) := Lib.hid (blk_grown HYq5.out hgq6 (fun e => HNE.out (by injection e)))
        clear ownq6 hgq6
        refine hK.out _ _ (HS.out _ HBq6.out) (fun hHeld => ?_)
        clear hK K
        (try simp only [Act.put, List.getElem_toArray, List.getElem_cons_succ, List.getElem_cons_zero, List.setIfInBounds_toArray, List.set_cons_zero, List.set_cons_succ])
        refine wpAnyE_ready (rs := [6]) (by kernel_rfl) (by simp) (AllReadyE.cons rfl (fun K hK => ?_) AllReadyE.nil)
        refine step_append1 rowRIn (by rfl) _ _ (by rfl) (by rfl) (B := W6.heap.size) OWq6.out ⟨vo, vx, va, vb⟩ Y 1 (by rfl) HYq6.out (by (have := HML.out); omega) (by (have := HML.out); unfold maxLen; omega) HBq6.out.size ?_
        intro g cap q7 ownq7 hgq7 horq7 hlq7
        have HBq7 := Lib.hid (b_ownR HBq6.out OWq6.out hgq7)
        have OWq7 := Lib.hid ownq7
        clear ownq7 hgq7 horq7 hlq7
        refine hK.out _ _ (HS.out _ HBq7.out) (fun hHeld => ?_)
        clear hK K
        (try simp only [Act.put, List.getElem_toArray, List.getElem_cons_succ, List.getElem_cons_zero, List.setIfInBounds_toArray, List.set_cons_zero, List.set_cons_succ])
        (refine wpAnyE_take (n := 12) (i := 7) (v := ?_) rfl (by kernel_rfl) (by kernel_rfl) (by kernel_rfl) (by kernel_rfl) (by kernel_rfl) (fun _ _ _ h => h) (Or.inl ⟨by rfl, ?_⟩) hHeld ?_; rotate_left; (focus (intro w hSw; (try dsimp only at hSw); go_simp; try (with_reducible rfl))); (try simp only [Act.put, List.getElem_toArray, List.getElem_cons_succ, List.getElem_cons_zero, List.setIfInBounds_toArray, List.set_cons_zero, List.set_cons_succ]))
        have hp3 := blk_below HF6.out HBq7.out
        have p3 := hp3.2.1 3 (by simp)
        have pf := hp3.2.2
        have pz := hp3.1
        clear hp3
        refine wpAnyE_ready (rs := [8]) (by kernel_rfl) (by simp) (AllReadyE.last rfl (fun K hK => ?_))
        go_simp
        refine hK.out _ _ (trivial) (fun hHeld => ?_)
        clear hK K
        (try simp only [Act.put, List.getElem_toArray, List.getElem_cons_succ, List.getElem_cons_zero, List.setIfInBounds_toArray, List.set_cons_zero, List.set_cons_succ])
        refine wpAnyE_done (by kernel_rfl) ?_
        clear p3 pf pz
        refine thenF_named ?_
        intro w7 hw7
        have HF7 : Hid (Blk w7 w4.heap.size [.slice pa pn pc, .slice xa xn xc, .int .i64 vr, .slice (some ⟨g, 0, none⟩) (m.code.length + 1) cap]) := Lib.hid (by rw [hw7]; exact blk_set (blk_below HF6.out HBq7.out) 3 _)
        have HG7 : Hid (GrowX q7 w7 (fun j => w.heap.size + 2 ≤ j ∧ j = w4.heap.size)) := Lib.hid (by rw [hw7]; exact gx_set (gx_refl _ _) (Or.inr ⟨HW4.out, rfl⟩) _)
        clear hw7 hHeld
        have HR7 : Hid (Blk w7 gr (fnE.row (L0 ++ [⟨⟨pa, pn, pc⟩, ⟨xa, xn, xc⟩, vr, ⟨ca, cn, cc⟩⟩]))) := Lib.hid (blk_gx (blk_below HR6.out HBq7.out) HG7.out (fun q => by have := HGR.out.2; omega))
        have HA7 : Hid (FtAt w w7 pu ⟨ga, gn, gc⟩ pm ⟨fa, fn, fc⟩) := Lib.hid (ft_gx (ft_below HA6.out HBq7.out) HG7.out (fun j q => q.1))
        have HO7 : Hid (OwnR inE 42 w7 W6.heap.size (.slice (some ⟨g, 0, none⟩) (m.code.length + 1) cap) (m.code ++ [⟨vo, vx, va, vb⟩])) := Lib.hid (ownR_gx OWq7.out HG7.out (fun k hk q => by have := (ownR_lt OWq7.out k hk).1; have := HF6.out.1; omega))
        clear HG7
        go_wp2_with fail
        go_meet
        case rel => exact ⟨rfl, rfl, g, cap, HF7, HR7, HA7, HO7⟩
    · skip
      go_simp
      refine hK.out _ _ (HS.out _ (b_alloc HBq0.out _)) (fun hHeld => ?_)
      clear hK K
      (try simp only [Act.put, List.getElem_toArray, List.getElem_cons_succ, List.getElem_cons_zero, List.setIfInBounds_toArray, List.set_cons_zero, List.set_cons_succ])
      refine wpAnyE_named ?_
      intro q8 hq8
      have HBq8 : Hid (Below W6.heap.size W6 q8) := Lib.hid (by rw [hq8]; exact b_alloc HBq0.out _)
      obtain ⟨Y, hY⟩ : ∃ x, x = q0.heap.size := ⟨_, rfl⟩
      rw [← hY]
      have HYq8 : Hid (Blk q8 Y [.int .i64 vo, .int .u64 vx, .int .i64 va, .int .i64 vb]) := Lib.hid (by rw [hq8]; exact blk_new3 hY)
      clear hq8 hY
      replace hHeld := HS.out _ HBq8.out
      refine wpAnyE_ready (rs := [0]) (by kernel_rfl) (by simp) (AllReadyE.cons rfl (fun K hK => ?_) AllReadyE.nil)
      go_simp
      refine hK.out _ _ (HS.out _ (b_alloc HBq8.out _)) (fun hHeld => ?_)
      clear hK K
      (try simp only [Act.put, List.getElem_toArray, List.getElem_cons_succ, List.getElem_cons_zero, List.setIfInBounds_toArray, List.set_cons_zero, List.set_cons_succ])
      refine wpAnyE_named ?_
      intro q9 hq9
      have HBq9 : Hid (Below W6.heap.size W6 q9) := Lib.hid (by rw [hq9]; exact b_alloc HBq8.out _)
      obtain ⟨B, hB⟩ : ∃ x, x = q8.heap.size := ⟨_, rfl⟩
      rw [← hB]
      have OWq9 : Hid (OwnR inE 42 q9 W6.heap.size (.slice (some ⟨B, 0, none⟩) 0 0) []) := Lib.hid (by rw [hq9, hB]; exact own_emptyR HBq8.out.size)
      have HYq9 : Hid (Blk q9 Y [.int .i64 vo, .int .u64 vx, .int .i64 va, .int .i64 vb]) := Lib.hid (by rw [hq9]; exact blk_alloc HYq8.out _)
      have HNE : Hid (Y ≠ B) := Lib.hid (by have := HYq8.out.1; omega)
      clear hq9 hB
      replace hHeld := HS.out _ HBq9.out
      refine wpAnyE_ready (rs := [3]) (by kernel_rfl) (by simp) (AllReadyE.cons rfl (fun K hK => ?_) AllReadyE.nil)
      refine step_appendR rowRIn (by rfl) _ _ (by rfl) W6.heap.size _ [] (by rfl) OWq9.out _ m.code (by rfl) (readR_below HXR.out HBq9.out) (by (have := HML.out); simp only [List.length_nil]; omega) (by (have := HML.out); simp only [List.length_nil]; unfold maxLen; omega) HBq9.out.size ?_
      intro V1 q10 ownq10 hgq10
      rw [List.nil_append] at ownq10
      have HBq10 := Lib.hid (b_ownR HBq9.out OWq9.out hgq10)
      have OWq10 := Lib.hid ownq10
      have HYq10 : Hid (Blk q10 Y [.int .i64 vo, .int .u64 vx, .int .i64 va, .int .i64 vb]) := Lib.hid (blk_grown HYq9.out hgq10 (fun e => HNE.out (by injection e)))
      clear ownq10 hgq10
      refine hK.out _ _ (HS.out _ HBq10.out) (fun hHeld => ?_)
      clear hK K
      (try simp only [Act.put, List.getElem_toArray, List.getElem_cons_succ, List.getElem_cons_zero, List.setIfInBounds_toArray, List.set_cons_zero, List.set_cons_succ])
      refine wpAnyE_ready (rs := [6]) (by kernel_rfl) (by simp) (AllReadyE.cons rfl (fun K hK => ?_) AllReadyE.nil)
      refine step_append1 rowRIn (by rfl) _ _ (by rfl) (by rfl) (B := W6.heap.size) OWq10.out ⟨vo, vx, va, vb⟩ Y 1 (by rfl) HYq10.out (by (have := HML.out); omega) (by (have := HML.out); unfold maxLen; omega) HBq10.out.size ?_
      intro g cap q11 ownq11 hgq11 horq11 hlq11
      have HBq11 := Lib.hid (b_ownR HBq10.out OWq10.out hgq11)
      have OWq11 := Lib.hid ownq11
      clear ownq11 hgq11 horq11 hlq11
      refine hK.out _ _ (HS.out _ HBq11.out) (fun hHeld => ?_)
      clear hK K
      (try simp only [Act.put, List.getElem_toArray, List.getElem_cons_succ, List.getElem_cons_zero, List.setIfInBounds_toArray, List.set_cons_zero, List.set_cons_succ])
      (refine wpAnyE_take (n := 12) (i := 7) (v := ?_) rfl (by kernel_rfl) (by kernel_rfl) (by kernel_rfl) (by kernel_rfl) (by kernel_rfl) (fun _ _ _ h => h) (Or.inl ⟨by rfl, ?_⟩) hHeld ?_; rotate_left; (focus (intro w hSw; (try dsimp only at hSw); go_simp; try (with_reducible rfl))); (try simp only [Act.put, List.getElem_toArray, List.getElem_cons_succ, List.getElem_cons_zero, List.setIfInBounds_toArray, List.set_cons_zero, List.set_cons_succ]))
      have hp3 := blk_below HF6.out HBq11.out
      have p3 := hp3.2.1 3 (by simp)
      have pf := hp3.2.2
      have pz := hp3.1
      clear hp3
      refine wpAnyE_ready (rs := [8]) (by kernel_rfl) (by simp) (AllReadyE.last rfl (fun K hK => ?_))
      go_simp
      refine hK.out _ _ (trivial) (fun hHeld => ?_)
      clear hK K
      (try simp only [Act.put, List.getElem_toArray, List.getElem_cons_succ, List.getElem_cons_zero, List.setIfInBounds_toArray, List.set_cons_zero, List.set_cons_succ])
      refine wpAnyE_done (by kernel_rfl) ?_
      clear p3 pf pz
      refine thenF_named ?_
      intro w7 hw7
      have HF7 : Hid (Blk w7 w4.heap.size [.slice pa pn pc, .slice xa xn xc, .int .i64 vr, .slice (some ⟨g, 0, none⟩) (m.code.length + 1) cap]) := Lib.hid (by rw [hw7]; exact blk_set (blk_below HF6.out HBq11.out) 3 _)
      have HG7 : Hid (GrowX q11 w7 (fun j => w.heap.size + 2 ≤ j ∧ j = w4.heap.size)) := Lib.hid (by rw [hw7]; exact gx_set (gx_refl _ _) (Or.inr ⟨HW4.out, rfl⟩) _)
      clear hw7 hHeld
      have HR7 : Hid (Blk w7 gr (fnE.row (L0 ++ [⟨⟨pa, pn, pc⟩, ⟨xa, xn, xc⟩, vr, ⟨ca, cn, cc⟩⟩]))) := Lib.hid (blk_gx (blk_below HR6.out HBq11.out) HG7.out (fun q => by have := HGR.out.2; omega))
      have HA7 : Hid (FtAt w w7 pu ⟨ga, gn, gc⟩ pm ⟨fa, fn, fc⟩) := Lib.hid (ft_gx (ft_below HA6.out HBq11.out) HG7.out (fun j q => q.1))
      have HO7 : Hid (OwnR inE 42 w7 W6.heap.size (.slice (some ⟨g, 0, none⟩) (m.code.length + 1) cap) (m.code ++ [⟨vo, vx, va, vb⟩])) := Lib.hid (ownR_gx OWq11.out HG7.out (fun k hk q => by have := (ownR_lt OWq11.out k hk).1; have := HF6.out.1; omega))
      clear HG7
      go_wp2_with fail
      go_meet
      case rel => exact ⟨rfl, rfl, g, cap, HF7, HR7, HA7, HO7⟩
  case rest =>
  obtain ⟨rfl, rfl, g, cap, HF7, HR7, HA7, HO7⟩ := hcut
  obtain ⟨w7, hw7⟩ : ∃ x, x = wc := ⟨_, rfl⟩
  subst hw7
  obtain ⟨f0, f1, f2, f3, ff⟩ := blk4 HF7.out
  have fz := HF7.out.1
  obtain ⟨⟨l0, l1, l2, l3⟩, lf⟩ := blk_lasts HR7.out
  simp only [Sl.v] at l0 l1 l2 l3
  have lz := HR7.out.1
  go_upto_region 34 with fail
  refine wp_named ?_
  intro w8 hw8
  have HR8 : Hid (Blk w8 gr (fnE.row (L0 ++ [⟨⟨pa, pn, pc⟩, ⟨xa, xn, xc⟩, vr, ⟨some ⟨g, 0, none⟩, m.code.length + 1, cap⟩⟩]))) := Lib.hid (by rw [hw8]; exact blk_last4 HR7.out ⟨⟨pa, pn, pc⟩, ⟨xa, xn, xc⟩, vr, ⟨some ⟨g, 0, none⟩, m.code.length + 1, cap⟩⟩)
  have HG8 : Hid (GrowX w7 w8 (fun j => j = gr)) := Lib.hid (by rw [hw8]; exact gx_set4 _ _ _ _ _ _ _ _ _ _)
  have HA8 : Hid (FtAt w w8 pu ⟨ga, gn, gc⟩ pm ⟨fa, fn, fc⟩) := Lib.hid (ft_gx HA7.out HG8.out (fun j q => by have := HGR.out.1; omega))
  clear hw8 f0 f1 f2 f3 ff fz l0 l1 l2 l3 lf lz
  have HA := HA8
  obtain ⟨p0, p1, p2, p3, pf⟩ := blk4 HA.out.p
  simp only [Sl.v] at p1 p3
  have pz := HA.out.p.1
  obtain ⟨r0, r1, r2, r3, rf⟩ := blk4 HA.out.r
  have rz := HA.out.r.1
  go_upto_region 35 with fail
  refine wp_named ?_
  intro w9 hw9
  have HS9 : Hid (FtAt w w9 pu ⟨ga, gn, gc⟩ pm ⟨some ⟨gr, 0, none⟩, fn, cr⟩ ∧ GrowX w8 w9 (fun j => j < w.heap.size + 2)) := Lib.hid (by rw [hw9]; exact ft_set HA.out 3 _ rfl)
  clear hw9 p0 p1 p2 p3 pf pz r0 r1 r2 r3 rf rz HA
  have HA : Hid (FtAt w w9 pu ⟨ga, gn, gc⟩ pm ⟨some ⟨gr, 0, none⟩, fn, cr⟩) := Lib.hid HS9.out.1
  obtain ⟨p0, p1, p2, p3, pf⟩ := blk4 HA.out.p
  simp only [Sl.v] at p1 p3
  have pz := HA.out.p.1
  obtain ⟨r0, r1, r2, r3, rf⟩ := blk4 HA.out.r
  have rz := HA.out.r.1
  go_wp2_with fail
  refine post_named ?_
  intro wF hwF
  have BF := Lib.hid (ft_fin HA.out)
  have HWF : Hid (wF = ftFin _ (w.heap.size + 1) pu ⟨ga, gn, gc⟩ pm ⟨(some ⟨gr, 0, none⟩), fn, cr⟩) := Lib.hid hwF
  rw [← HWF.out] at BF
  clear hwF
  obtain ⟨q0, q1, q2, q3, _⟩ := blk4 BF.out.1
  refine bodyPost_ret (v := .tuple #[.agg #[.bool pu, .slice ga gn gc, .int .i64 pm, .slice (some ⟨gr, 0, none⟩) fn cr], .int .i64 (3)]) (by simp [results, Tryd.results49, go_sem, q0, q1, q2, q3, Sl.v]) rfl ⟨⟨pu, ⟨ga, gn, gc⟩, pm, ⟨(some ⟨gr, 0, none⟩), fn, cr⟩⟩, 3, rfl, BF.out.2.1, ?_⟩
  refine ⟨(fun q => by cases q), fun P' j q => ?_⟩
  injection q with q
  injection q with e1 e2
  subst e1 e2
  exact ⟨rfl, HRD.out.u, (keepP_below HRD.out BF.out.2.1).g, HRD.out.m, HFIN.out w7 w8 w9 _ g cap HO7.out HG8.out HR8.out HS9.out.2 BF.out.2.2 BF.out.2.1⟩
theorem fit_none {X : Nat → Prop} {w : World} {e : Ending} {w' : World} {o : Option (PrM × Nat)} (ho : o = none) (h : FitEnd34 X none w e w') : FitEnd34 X o w e w' := by rw [ho]; exact h
theorem fits_any {X : Nat → Prop} (n : Nat) (hn : n ≤ 3) {p : PrV} {P : PrM} {wv : Value} {ws : List (List UInt8)} (w : World) (hp : KeepP X w p P) (hX : ∀ j, X j → j < w.heap.size) (hw : ReadR strE w wv ws) (hne : ws ≠ []) (hall : ∀ x ∈ ws, x.length ≤ 1000000) (hs1 : P.fs.length ≤ 1000000) (hs2 : ∀ f ∈ P.fs, f.code.length ≤ 1000000) : Calls Tryd.prog 49 #[aggP p, wv, .int .i64 n] w (FitEnd34 X (fitsL P n ws) w) := by
  match ws, hne, hw, hall with
  | a :: r, _, hw, hall =>
    have hI : ∀ w', Below w.heap.size w w' → Calls Tryd.prog 69 #[wv] w' fun e w'' => OneEnd a r e ∧ Below w'.heap.size w' w'' := fun w' hb => rinstr_any w' (readR_below hw hb) (fun x hx => hall x (by simp [hx]))
    obtain ⟨b, o, m, cap, rfl, hm, hmc, hcm, hb, c0, cr⟩ := awords_at hw
    have HIN : FtIn X w p P b o m cap a := ⟨hp, hX, by omega, hmc, by omega, hb, c0⟩
    by_cases hn1 : n ≤ 1
    · by_cases hu : n = 0 ∧ a :: r = [sUnch]
      · obtain ⟨hu0, hu1⟩ := hu
        injection hu1 with ha hr
        have e : fitsL P n (a :: r) = some ({ P with u := true }, 1) := by unfold fitsL; rw [if_pos ⟨hu0, by rw [ha, hr]⟩]
        rw [e]
        have hm1 : ((m : Int) == 1) = true := by rw [hm, hr]; rfl
        subst hu0
        exact fit_unch HIN hm1 (beq_of ha)
      · have e : fitsL P n (a :: r) = globL P (a :: r) := by unfold fitsL; rw [if_neg hu, if_pos hn1]
        rw [e]
        have hu' : n = 0 → ((m : Int) == 1) = false ∨ (a == [117, 110, 99, 104, 101, 99, 107, 101, 100]) = false := fun q0 => by
          by_cases qa : a = sUnch
          · refine Or.inl (beq_false_of_ne (fun q => hu ⟨q0, ?_⟩))
            have : r.length = 0 := by omega
            rw [qa, List.eq_nil_of_length_eq_zero this]
          · exact Or.inr (beq_no qa)
        by_cases hg : a = sGlob ∧ r.length = 1
        · obtain ⟨ha, hr⟩ := hg
          match r, hr, cr, hm, hall with
          | [x], _, cr, hm, hall =>
            have e2 : globL P [a, x] = (listL x).bind fun l => some ({ P with gl := l }, 2) := by unfold globL; simp only [ha, if_true]
            rw [e2]
            have c1 : w.cell? ⟨b, o + 1, none⟩ = some (.string ⟨x.toArray⟩) := cr 0 (by simp)
            have hx := hall x (by simp)
            rcases (by omega : n = 0 ∨ n = 1) with rfl | rfl
            · exact fit_g0 HIN (by rw [hm]; rfl) (by rw [hm]; rfl) (beq_of ha) c1 hx
            · exact fit_g1 HIN (by rw [hm]; rfl) (beq_of ha) c1 hx
        · have e2 : globL P (a :: r) = none := by
            unfold globL
            split
            · rename_i a' b' heq
              injection heq with q1 q2
              rw [if_neg]
              intro q
              exact hg ⟨by rw [q1]; exact q, by rw [q2]; rfl⟩
            · rfl
          rw [e2]
          have h2 : ((m : Int) != 2) = true ∨ (a == [103, 108, 111, 98, 97, 108, 115]) = false := by
            by_cases qa : a = sGlob
            · refine Or.inl ?_
              have : r.length ≠ 1 := fun q => hg ⟨qa, q⟩
              simp; omega
            · exact Or.inr (beq_no qa)
          rcases (by omega : n = 0 ∨ n = 1) with rfl | rfl
          · exact fit_g_no0 HIN (hu' rfl) h2
          · exact fit_g_no1 HIN h2
    · by_cases hn2 : n = 2
      · subst hn2
        have e : fitsL P 2 (a :: r) = mutL P (a :: r) := by unfold fitsL; rw [if_neg (by omega), if_neg (by omega), if_pos rfl]
        rw [e]
        by_cases hg : a = sMut ∧ r.length = 1
        · obtain ⟨ha, hr⟩ := hg
          match r, hr, cr, hm, hall with
          | [x], _, cr, hm, hall =>
            have e2 : mutL P [a, x] = (valL x).bind fun m => some ({ P with m := (m : Int) }, 3) := by unfold mutL; simp only [ha, if_true]
            rw [e2]
            have c1 : w.cell? ⟨b, o + 1, none⟩ = some (.string ⟨x.toArray⟩) := cr 0 (by simp)
            exact fit_m HIN (by rw [hm]; rfl) (beq_of ha) c1 (hall x (by simp))
        · have e2 : mutL P (a :: r) = none := by
            unfold mutL
            split
            · rename_i a' b' heq
              injection heq with q1 q2
              rw [if_neg]
              intro q
              exact hg ⟨by rw [q1]; exact q, by rw [q2]; rfl⟩
            · rfl
          rw [e2]
          refine fit_m_no HIN ?_
          by_cases qa : a = sMut
          · refine Or.inl ?_
            have : r.length ≠ 1 := fun q => hg ⟨qa, q⟩
            simp; omega
          · exact Or.inr (beq_no qa)
      · obtain rfl : n = 3 := by omega
        have e : fitsL P 3 (a :: r) = codL P (a :: r) := by unfold fitsL; rw [if_neg (by omega), if_neg (by omega), if_neg (by omega)]
        rw [e]
        by_cases ha : a = sFunc
        · have e1 : codL P (a :: r) = fnL P r := by unfold codL; simp only [ha, if_true]
          rw [e1]
          by_cases h3 : r.length = 3
          · match r, h3, cr, hm, hall with
            | [x, y, z], _, cr, hm, hall =>
              have c1 : w.cell? ⟨b, o + 1, none⟩ = some (.string ⟨x.toArray⟩) := cr 0 (by simp)
              have c2 : w.cell? ⟨b, o + 2, none⟩ = some (.string ⟨y.toArray⟩) := cr 1 (by simp)
              have c3 : w.cell? ⟨b, o + 3, none⟩ = some (.string ⟨z.toArray⟩) := cr 2 (by simp)
              have hx := hall x (by simp)
              have hy := hall y (by simp)
              have hz := hall z (by simp)
              have hm4 : m = 4 := by simpa using hm
              have hbad : (listL x = none ∨ listL y = none ∨ listL z = none ∨ ∃ c, listL z = some c ∧ c.length ≠ 1) → fnL P [x, y, z] = none → Calls Tryd.prog 49 #[aggP p, .slice (some ⟨b, o, none⟩) m cap, .int .i64 3] w (FitEnd34 X (fnL P [x, y, z]) w) := fun q e => (fit_f_bad HIN (beq_of ha) hm4 c1 c2 c3 hx hy hz q).mono fun _ _ q => fit_none e q
              cases ex : listL x with
              | none => exact hbad (Or.inl ex) (by unfold fnL; simp only [ex]; rfl)
              | some la =>
                cases ey : listL y with
                | none => exact hbad (Or.inr (Or.inl ey)) (by unfold fnL; simp only [ex, ey]; rfl)
                | some lb =>
                  cases ez : listL z with
                  | none => exact hbad (Or.inr (Or.inr (Or.inl ez))) (by unfold fnL; simp only [ex, ey, ez]; rfl)
                  | some c =>
                    match c, ez with
                    | [k], ez =>
                      have e2 : fnL P [x, y, z] = some ({ P with fs := P.fs ++ [⟨la, lb, k, []⟩] }, 3) := by unfold fnL; simp only [ex, ey, ez]; rfl
                      rw [e2]
                      exact fit_f HIN (beq_of ha) hm4 c1 c2 c3 hx hy hz ex ey ez hs1
                    | [], ez => exact hbad (Or.inr (Or.inr (Or.inr ⟨_, ez, by simp⟩))) (by unfold fnL; simp only [ex, ey, ez]; rfl)
                    | k :: k2 :: c, ez => exact hbad (Or.inr (Or.inr (Or.inr ⟨_, ez, by simp⟩))) (by unfold fnL; simp only [ex, ey, ez]; rfl)
          · have e2 : fnL P r = none := by
              unfold fnL
              split
              · rename_i x y z
                exact absurd rfl h3
              · rfl
            rw [e2]
            exact fit_f_len HIN (beq_of ha) (by simp; omega)
        · have e1 : codL P (a :: r) = (instrL a r).bind fun i => if P.fs = [] then none else some ({ P with fs := addLast P.fs i }, 3) := by unfold codL; simp only [ha, if_false]
          rw [e1]
          cases ei : instrL a r with
          | none => exact fit_c_no HIN (beq_no ha) hI (Or.inl ei)
          | some i =>
            by_cases hf : P.fs = []
            · have e2 : ((some i).bind fun i => if P.fs = [] then none else some (({ P with fs := addLast P.fs i } : PrM), 3)) = none := by show (if P.fs = [] then none else _) = _; rw [if_pos hf]
              rw [e2]
              exact fit_c_no HIN (beq_no ha) hI (Or.inr hf)
            · have e2 : ((some i).bind fun i => if P.fs = [] then none else some (({ P with fs := addLast P.fs i } : PrM), 3)) = some ({ P with fs := addLast P.fs i }, 3) := by show (if P.fs = [] then none else _) = _; rw [if_neg hf]
              rw [e2]
              exact fit_c HIN (beq_no ha) hI ei hf hs1 hs2
end Go.Proofs.YtedmjlhgpdeafaaDoor
