/- Layer 34: the document's fits. Conditions: the words read as strings, the program reads. -/
import Derived.Test.YtedmjlhgpdeafaaDoorQAsmK
namespace Go.Proofs.YtedmjlhgpdeafaaDoor
open Go.RowKit
set_option linter.unusedVariables false
set_option linter.unusedSimpArgs false
attribute [local go_sem] over_cell over_frozen
theorem thenF_named {K : Act → World → Prop} {Q : Exit → Act → World → Prop} {a : Act} {w : World} (h : ∀ w1, w1 = w → Exit.then K Q Exit.normal a w1) : Exit.then K Q Exit.normal a w := h w rfl
theorem allF_split {w : World} {v : FnV} : ∀ {L : List FnV} {fs : List FnM}, AllF w (L ++ [v]) fs → ∃ fs0 m, fs = fs0 ++ [m] ∧ AllF w L fs0 ∧ DeepF w v m
  | [], [], h => h.elim
  | [], [m], h => ⟨[], m, rfl, trivial, h.1⟩
  | [], m :: m2 :: fs, h => h.2.elim
  | _ :: _, [], h => h.elim
  | x :: L, f :: fs, h => by
    obtain ⟨fs0, m, e, h1, h2⟩ := allF_split h.2
    exact ⟨f :: fs0, m, by rw [e]; rfl, ⟨h.1, h1⟩, h2⟩
theorem allF_split2 {w : World} {v : FnV} {L : List FnV} {fs : List FnM} {m : FnM} (h : AllF w (L ++ [v]) (fs ++ [m])) : AllF w L fs ∧ DeepF w v m := by
  obtain ⟨fs0, m0, e, h1, h2⟩ := allF_split h
  obtain ⟨e1, e2⟩ := List.append_inj' e rfl
  injection e2 with e2 _
  rw [e1, e2]; exact ⟨h1, h2⟩
theorem blk_last4 {w : World} {gb : Nat} {L0 : List FnV} {v : FnV} (h : Blk w gb (fnE.row (L0 ++ [v]))) (v' : FnV) : Blk ((((w.setCell ⟨gb, L0.length * 4, none⟩ v'.p.v).setCell ⟨gb, L0.length * 4 + 1, none⟩ v'.l.v).setCell ⟨gb, L0.length * 4 + 2, none⟩ (.int .i64 v'.r)).setCell ⟨gb, L0.length * 4 + 3, none⟩ v'.c.v) gb (fnE.row (L0 ++ [v'])) := by
  have q := blk_elt fnE h (k := L0.length) (by simp) v'
  rw [show (L0 ++ [v]).set L0.length v' = L0 ++ [v'] by simp] at q
  exact q
theorem blk_lasts {w : World} {gb : Nat} {L0 : List FnV} {v : FnV} (h : Blk w gb (fnE.row (L0 ++ [v]))) : (w.cell? ⟨gb, L0.length * 4, none⟩ = some v.p.v ∧ w.cell? ⟨gb, L0.length * 4 + 1, none⟩ = some v.l.v ∧ w.cell? ⟨gb, L0.length * 4 + 2, none⟩ = some (.int .i64 v.r) ∧ w.cell? ⟨gb, L0.length * 4 + 3, none⟩ = some v.c.v) ∧ ∀ i, w.frozen? ⟨gb, i, none⟩ = false := by
  have key : ∀ j (hj : j < 4), w.cell? ⟨gb, L0.length * 4 + j, none⟩ = (fnE.cells v)[j]? := fun j hj => by
    have hl : L0.length * 4 + j < (fnE.row (L0 ++ [v])).length := by rw [row_length]; show _ < (L0 ++ [v]).length * 4; simp; omega
    have q := row_at fnE (L0 ++ [v]) L0.length (by simp) j hj
    have e : L0.length * fnE.size + j = L0.length * 4 + j := rfl
    rw [e] at q
    rw [h.2.1 _ hl, ← List.getElem?_eq_getElem hl, q]
    simp
  exact ⟨⟨key 0 (by omega), key 1 (by omega), key 2 (by omega), key 3 (by omega)⟩, h.2.2⟩
set_option maxRecDepth 100000 in
set_option maxHeartbeats 4000000 in
theorem fit_f_len {X : Nat → Prop} {w : World} {p : PrV} {P : PrM} {b o n cap : Nat} {a : List UInt8} (h : FtIn X w p P b o n cap a) (ha : (a == [102, 117, 110, 99]) = true) (h2 : ((n : Int) != 4) = true) : Calls Tryd.prog 49 #[aggP p, .slice (some ⟨b, o, none⟩) n cap, .int .i64 3] w (FitEnd34 X (none) w) := by
  obtain ⟨pu, ⟨ga, gn, gc⟩, pm, ⟨fa, fn, fc⟩⟩ := p
  have hn1 := h.n1
  have hnc := h.nc
  have hcm := h.cm
  have hb := h.hb
  have hc0 := h.c0
  have HRD := Lib.hid h.rd
  have HX := Lib.hid h.xx
  have HCC := Lib.hid (fun (w' : World) (hw : Below w.heap.size w w') => ((And.intro (((bcell hw).1 b _ hb).trans hc0) (Nat.lt_of_lt_of_le hb hw.size)) : w'.cell? ⟨b, o, none⟩ = some (.string ⟨a.toArray⟩) ∧ b < w'.heap.size))
  clear h
  have hn0 : (0 : Int) < n := by omega
  unfold aggP Sl.v
  simp only
  go_enter Tryd.func49, Tryd.ntmps49
  go_upto_region 1 with fail
  refine wp_named ?_
  intro W1 hW1
  have HA : Hid (FtAt w W1 pu ⟨ga, gn, gc⟩ pm ⟨fa, fn, fc⟩) := Lib.hid (by rw [hW1]; exact ft_start w _ _ _ _ rfl rfl)
  clear hW1
  obtain ⟨c0, bz⟩ := HCC.out _ HA.out.be
  obtain ⟨p0, p1, p2, p3, pf⟩ := blk4 HA.out.p
  simp only [Sl.v] at p1 p3
  have pz := HA.out.p.1
  obtain ⟨r0, r1, r2, r3, rf⟩ := blk4 HA.out.r
  have rz := HA.out.r.1
  go_wp2_with fail
  refine post_named ?_
  intro wF hwF
  have BF := Lib.hid (ft_fin HA.out)
  have HWF : Hid (wF = ftFin _ (w.heap.size + 1) pu ⟨ga, gn, gc⟩ pm ⟨fa, fn, fc⟩) := Lib.hid hwF
  rw [← HWF.out] at BF
  clear hwF
  obtain ⟨q0, q1, q2, q3, _⟩ := blk4 BF.out.1
  refine bodyPost_ret (v := .tuple #[.agg #[.bool pu, .slice ga gn gc, .int .i64 pm, .slice fa fn fc], .int .i64 (-1)]) (by simp [results, Tryd.results49, go_sem, q0, q1, q2, q3, Sl.v]) rfl ⟨⟨pu, ⟨ga, gn, gc⟩, pm, ⟨fa, fn, fc⟩⟩, -1, rfl, BF.out.2.1, ?_⟩
  exact ⟨(fun _ => rfl), fun P' j q => by cases q⟩
set_option maxRecDepth 100000 in
set_option maxHeartbeats 4000000 in
theorem fit_f_bad {X : Nat → Prop} {w : World} {p : PrV} {P : PrM} {b o n cap : Nat} {a : List UInt8} (h : FtIn X w p P b o n cap a) {x y z : List UInt8} (ha : (a == [102, 117, 110, 99]) = true) (hn : n = 4) (hc1 : w.cell? ⟨b, o + 1, none⟩ = some (.string ⟨x.toArray⟩)) (hc2 : w.cell? ⟨b, o + 2, none⟩ = some (.string ⟨y.toArray⟩)) (hc3 : w.cell? ⟨b, o + 3, none⟩ = some (.string ⟨z.toArray⟩)) (hx : x.length ≤ 1000000) (hy : y.length ≤ 1000000) (hz : z.length ≤ 1000000) (hbad : listL x = none ∨ listL y = none ∨ listL z = none ∨ ∃ c, listL z = some c ∧ c.length ≠ 1) : Calls Tryd.prog 49 #[aggP p, .slice (some ⟨b, o, none⟩) n cap, .int .i64 3] w (FitEnd34 X (none) w) := by
  obtain ⟨pu, ⟨ga, gn, gc⟩, pm, ⟨fa, fn, fc⟩⟩ := p
  have hn1 := h.n1
  have hnc := h.nc
  have hcm := h.cm
  have hb := h.hb
  have hc0 := h.c0
  have HRD := Lib.hid h.rd
  have HX := Lib.hid h.xx
  have HCC := Lib.hid (fun (w' : World) (hw : Below w.heap.size w w') => ((And.intro (((bcell hw).1 b _ hb).trans hc0) (And.intro (((bcell hw).1 b _ hb).trans hc1) (And.intro (((bcell hw).1 b _ hb).trans hc2) (And.intro (((bcell hw).1 b _ hb).trans hc3) (Nat.lt_of_lt_of_le hb hw.size))))) : w'.cell? ⟨b, o, none⟩ = some (.string ⟨a.toArray⟩) ∧ w'.cell? ⟨b, o + 1, none⟩ = some (.string ⟨x.toArray⟩) ∧ w'.cell? ⟨b, o + 2, none⟩ = some (.string ⟨y.toArray⟩) ∧ w'.cell? ⟨b, o + 3, none⟩ = some (.string ⟨z.toArray⟩) ∧ b < w'.heap.size))
  clear h
  have hn0 : (0 : Int) < n := by omega
  have hn4 : ((n : Int) != 4) = false := by rw [hn]; rfl
  have hn5 : 3 < n := by omega
  clear hn
  unfold aggP Sl.v
  simp only
  go_enter Tryd.func49, Tryd.ntmps49
  go_upto_region 1 with fail
  refine wp_named ?_
  intro W1 hW1
  have HA : Hid (FtAt w W1 pu ⟨ga, gn, gc⟩ pm ⟨fa, fn, fc⟩) := Lib.hid (by rw [hW1]; exact ft_start w _ _ _ _ rfl rfl)
  clear hW1
  obtain ⟨c0, c1, c2, c3, bz⟩ := HCC.out _ HA.out.be
  obtain ⟨p0, p1, p2, p3, pf⟩ := blk4 HA.out.p
  simp only [Sl.v] at p1 p3
  have pz := HA.out.p.1
  obtain ⟨r0, r1, r2, r3, rf⟩ := blk4 HA.out.r
  have rz := HA.out.r.1
  have HLX := Lib.hid (fun w => rlist34_any x w hx)
  have HLY := Lib.hid (fun w => rlist34_any y w hy)
  have HLZ := Lib.hid (fun w => rlist34_any z w hz)
  unfold strV at HLX HLY HLZ
  go_wp2_with fail
  refine (HLX.out _).mono ?_
  rintro e w2 ⟨⟨a1, n1, k1, rfl, hv⟩, hb2⟩
  clear p0 p1 p2 p3 pf pz r0 r1 r2 r3 rf rz
  have HA2 := Lib.hid (ft_below HA.out hb2)
  have HV1 := Lib.hid hv
  have HBB1 := Lib.hid hb2
  have HSZ1 : Hid (w.heap.size + 2 ≤ W1.heap.size) := Lib.hid (by have := HA.out.r.1; omega)
  clear hv hb2 HA c0 c1 c2 c3 bz
  have HA := HA2
  clear HA2
  obtain ⟨c0, c1, c2, c3, bz⟩ := HCC.out _ HA.out.be
  obtain ⟨p0, p1, p2, p3, pf⟩ := blk4 HA.out.p
  simp only [Sl.v] at p1 p3
  have pz := HA.out.p.1
  obtain ⟨r0, r1, r2, r3, rf⟩ := blk4 HA.out.r
  have rz := HA.out.r.1
  go_wp2_with fail
  refine (HLY.out _).mono ?_
  rintro e w3 ⟨⟨a2, n2, k2, rfl, hv⟩, hb2⟩
  clear p0 p1 p2 p3 pf pz r0 r1 r2 r3 rf rz
  have HA2 := Lib.hid (ft_below HA.out hb2)
  have HV2 := Lib.hid hv
  have HBB2 := Lib.hid hb2
  have HSZ2 : Hid (w.heap.size + 2 ≤ w2.heap.size) := Lib.hid (by have := HA.out.r.1; omega)
  clear hv hb2 HA c0 c1 c2 c3 bz
  have HA := HA2
  clear HA2
  obtain ⟨c0, c1, c2, c3, bz⟩ := HCC.out _ HA.out.be
  obtain ⟨p0, p1, p2, p3, pf⟩ := blk4 HA.out.p
  simp only [Sl.v] at p1 p3
  have pz := HA.out.p.1
  obtain ⟨r0, r1, r2, r3, rf⟩ := blk4 HA.out.r
  have rz := HA.out.r.1
  go_wp2_with fail
  refine (HLZ.out _).mono ?_
  rintro e w4 ⟨⟨a3, n3, k3, rfl, hv⟩, hb2⟩
  clear p0 p1 p2 p3 pf pz r0 r1 r2 r3 rf rz
  have HA2 := Lib.hid (ft_below HA.out hb2)
  have HV3 := Lib.hid hv
  have HBB3 := Lib.hid hb2
  have HSZ3 : Hid (w.heap.size + 2 ≤ w3.heap.size) := Lib.hid (by have := HA.out.r.1; omega)
  clear hv hb2 HA c0 c1 c2 c3 bz
  have HA := HA2
  clear HA2
  obtain ⟨c0, c1, c2, c3, bz⟩ := HCC.out _ HA.out.be
  obtain ⟨p0, p1, p2, p3, pf⟩ := blk4 HA.out.p
  simp only [Sl.v] at p1 p3
  have pz := HA.out.p.1
  obtain ⟨r0, r1, r2, r3, rf⟩ := blk4 HA.out.r
  have rz := HA.out.r.1
  have HN3 : Hid ((listL x).isSome = true → (listL y).isSome = true → (listL z).isSome = true → ((n3 : Int) != 1) = true) := Lib.hid (fun q1 q2 q3 => by
    rcases hbad with h | h | h | ⟨c, h, hl⟩
    · rw [h] at q1; cases q1
    · rw [h] at q2; cases q2
    · rw [h] at q3; cases q3
    · obtain ⟨_, _, e⟩ := readI_len (ownI_read (HV3.out c h))
      injection e with _ e _
      rw [e]; simp; omega)
  clear hbad
  cases hA : (listL x).isSome <;> cases hB : (listL y).isSome <;> cases hC : (listL z).isSome
  case true.true.true =>
    have hq := HN3.out hA hB hC
    go_wp2_with fail
    refine post_named ?_
    intro wF hwF
    have BF := Lib.hid (ft_fin HA.out)
    have HWF : Hid (wF = ftFin _ (w.heap.size + 1) pu ⟨ga, gn, gc⟩ pm ⟨fa, fn, fc⟩) := Lib.hid hwF
    rw [← HWF.out] at BF
    clear hwF
    obtain ⟨q0, q1, q2, q3, _⟩ := blk4 BF.out.1
    refine bodyPost_ret (v := .tuple #[.agg #[.bool pu, .slice ga gn gc, .int .i64 pm, .slice fa fn fc], .int .i64 (-1)]) (by simp [results, Tryd.results49, go_sem, q0, q1, q2, q3, Sl.v]) rfl ⟨⟨pu, ⟨ga, gn, gc⟩, pm, ⟨fa, fn, fc⟩⟩, -1, rfl, BF.out.2.1, ?_⟩
    exact ⟨(fun _ => rfl), fun P' j q => by cases q⟩
  all_goals
    go_wp2_with fail
    refine post_named ?_
    intro wF hwF
    have BF := Lib.hid (ft_fin HA.out)
    have HWF : Hid (wF = ftFin _ (w.heap.size + 1) pu ⟨ga, gn, gc⟩ pm ⟨fa, fn, fc⟩) := Lib.hid hwF
    rw [← HWF.out] at BF
    clear hwF
    obtain ⟨q0, q1, q2, q3, _⟩ := blk4 BF.out.1
    refine bodyPost_ret (v := .tuple #[.agg #[.bool pu, .slice ga gn gc, .int .i64 pm, .slice fa fn fc], .int .i64 (-1)]) (by simp [results, Tryd.results49, go_sem, q0, q1, q2, q3, Sl.v]) rfl ⟨⟨pu, ⟨ga, gn, gc⟩, pm, ⟨fa, fn, fc⟩⟩, -1, rfl, BF.out.2.1, ?_⟩
    exact ⟨(fun _ => rfl), fun P' j q => by cases q⟩
set_option maxRecDepth 100000 in
set_option maxHeartbeats 4000000 in
theorem fit_f {X : Nat → Prop} {w : World} {p : PrV} {P : PrM} {b o n cap : Nat} {a : List UInt8} (h : FtIn X w p P b o n cap a) {x y z : List UInt8} (ha : (a == [102, 117, 110, 99]) = true) (hn : n = 4) (hc1 : w.cell? ⟨b, o + 1, none⟩ = some (.string ⟨x.toArray⟩)) (hc2 : w.cell? ⟨b, o + 2, none⟩ = some (.string ⟨y.toArray⟩)) (hc3 : w.cell? ⟨b, o + 3, none⟩ = some (.string ⟨z.toArray⟩)) (hx : x.length ≤ 1000000) (hy : y.length ≤ 1000000) (hz : z.length ≤ 1000000) {la lb : List Int} {kr : Int} (hla : listL x = some la) (hlb : listL y = some lb) (hlc : listL z = some [kr]) (hfl : P.fs.length ≤ 1000000) : Calls Tryd.prog 49 #[aggP p, .slice (some ⟨b, o, none⟩) n cap, .int .i64 3] w (FitEnd34 X (some ({ P with fs := P.fs ++ [⟨la, lb, kr, []⟩] }, 3)) w) := by
  obtain ⟨pu, ⟨ga, gn, gc⟩, pm, ⟨fa, fn, fc⟩⟩ := p
  have hn1 := h.n1
  have hnc := h.nc
  have hcm := h.cm
  have hb := h.hb
  have hc0 := h.c0
  have HRD := Lib.hid h.rd
  have HX := Lib.hid h.xx
  have HCC := Lib.hid (fun (w' : World) (hw : Below w.heap.size w w') => ((And.intro (((bcell hw).1 b _ hb).trans hc0) (And.intro (((bcell hw).1 b _ hb).trans hc1) (And.intro (((bcell hw).1 b _ hb).trans hc2) (And.intro (((bcell hw).1 b _ hb).trans hc3) (Nat.lt_of_lt_of_le hb hw.size))))) : w'.cell? ⟨b, o, none⟩ = some (.string ⟨a.toArray⟩) ∧ w'.cell? ⟨b, o + 1, none⟩ = some (.string ⟨x.toArray⟩) ∧ w'.cell? ⟨b, o + 2, none⟩ = some (.string ⟨y.toArray⟩) ∧ w'.cell? ⟨b, o + 3, none⟩ = some (.string ⟨z.toArray⟩) ∧ b < w'.heap.size))
  clear h
  have hn0 : (0 : Int) < n := by omega
  have hn4 : ((n : Int) != 4) = false := by rw [hn]; rfl
  have hn5 : 3 < n := by omega
  clear hn
  unfold aggP Sl.v
  simp only
  go_enter Tryd.func49, Tryd.ntmps49
  go_upto_region 1 with fail
  refine wp_named ?_
  intro W1 hW1
  have HA : Hid (FtAt w W1 pu ⟨ga, gn, gc⟩ pm ⟨fa, fn, fc⟩) := Lib.hid (by rw [hW1]; exact ft_start w _ _ _ _ rfl rfl)
  clear hW1
  obtain ⟨c0, c1, c2, c3, bz⟩ := HCC.out _ HA.out.be
  obtain ⟨p0, p1, p2, p3, pf⟩ := blk4 HA.out.p
  simp only [Sl.v] at p1 p3
  have pz := HA.out.p.1
  obtain ⟨r0, r1, r2, r3, rf⟩ := blk4 HA.out.r
  have rz := HA.out.r.1
  have HLX := Lib.hid (fun w => rlist34_any x w hx)
  have HLY := Lib.hid (fun w => rlist34_any y w hy)
  have HLZ := Lib.hid (fun w => rlist34_any z w hz)
  unfold strV at HLX HLY HLZ
  go_wp2_with fail
  refine (HLX.out _).mono ?_
  rintro e w2 ⟨⟨a1, n1, k1, rfl, hv⟩, hb2⟩
  clear p0 p1 p2 p3 pf pz r0 r1 r2 r3 rf rz
  have HA2 := Lib.hid (ft_below HA.out hb2)
  have HV1 := Lib.hid hv
  have HBB1 := Lib.hid hb2
  have HSZ1 : Hid (w.heap.size + 2 ≤ W1.heap.size) := Lib.hid (by have := HA.out.r.1; omega)
  clear hv hb2 HA c0 c1 c2 c3 bz
  have HA := HA2
  clear HA2
  obtain ⟨c0, c1, c2, c3, bz⟩ := HCC.out _ HA.out.be
  obtain ⟨p0, p1, p2, p3, pf⟩ := blk4 HA.out.p
  simp only [Sl.v] at p1 p3
  have pz := HA.out.p.1
  obtain ⟨r0, r1, r2, r3, rf⟩ := blk4 HA.out.r
  have rz := HA.out.r.1
  go_wp2_with fail
  refine (HLY.out _).mono ?_
  rintro e w3 ⟨⟨a2, n2, k2, rfl, hv⟩, hb2⟩
  clear p0 p1 p2 p3 pf pz r0 r1 r2 r3 rf rz
  have HA2 := Lib.hid (ft_below HA.out hb2)
  have HV2 := Lib.hid hv
  have HBB2 := Lib.hid hb2
  have HSZ2 : Hid (w.heap.size + 2 ≤ w2.heap.size) := Lib.hid (by have := HA.out.r.1; omega)
  clear hv hb2 HA c0 c1 c2 c3 bz
  have HA := HA2
  clear HA2
  obtain ⟨c0, c1, c2, c3, bz⟩ := HCC.out _ HA.out.be
  obtain ⟨p0, p1, p2, p3, pf⟩ := blk4 HA.out.p
  simp only [Sl.v] at p1 p3
  have pz := HA.out.p.1
  obtain ⟨r0, r1, r2, r3, rf⟩ := blk4 HA.out.r
  have rz := HA.out.r.1
  go_wp2_with fail
  refine (HLZ.out _).mono ?_
  rintro e w4 ⟨⟨a3, n3, k3, rfl, hv⟩, hb2⟩
  clear p0 p1 p2 p3 pf pz r0 r1 r2 r3 rf rz
  have HA2 := Lib.hid (ft_below HA.out hb2)
  have HV3 := Lib.hid hv
  have HBB3 := Lib.hid hb2
  have HSZ3 : Hid (w.heap.size + 2 ≤ w3.heap.size) := Lib.hid (by have := HA.out.r.1; omega)
  clear hv hb2 HA c0 c1 c2 c3 bz
  have HA := HA2
  clear HA2
  obtain ⟨c0, c1, c2, c3, bz⟩ := HCC.out _ HA.out.be
  obtain ⟨p0, p1, p2, p3, pf⟩ := blk4 HA.out.p
  simp only [Sl.v] at p1 p3
  have pz := HA.out.p.1
  obtain ⟨r0, r1, r2, r3, rf⟩ := blk4 HA.out.r
  have rz := HA.out.r.1
  have HO1 := Lib.hid (HV1.out la hla)
  have HO2 := Lib.hid (HV2.out lb hlb)
  have HO3 := Lib.hid (HV3.out [kr] hlc)
  have hA : (listL x).isSome = true := by rw [hla]; rfl
  have hB : (listL y).isSome = true := by rw [hlb]; rfl
  have hC : (listL z).isSome = true := by rw [hlc]; rfl
  obtain ⟨rg, ro, rc, e3, rr1, rr2, rr3, rr4⟩ := readI_pos (ownI_read HO3.out) (by simp)
  injection e3 with e31 e32 e33
  have rr5 : w4.cell? ⟨rg, ro, none⟩ = some (.int .i64 kr) := by simpa using rr4 0 (by simp)
  subst e31 e33
  have hn31 : ((n3 : Int) != 1) = false := by rw [e32]; rfl
  have hn30 : 0 < n3 := by rw [e32]; simp
  have hn3c : n3 ≤ k3 := by rw [e32]; exact rr1
  have hk3 := cap_le rr2
  obtain ⟨L, hLL⟩ := HRD.out.f
  obtain ⟨hRL, hAF⟩ := hLL w (gx_refl _ _)
  have HAF := Lib.hid hLL
  have HLL : Hid (L.length ≤ 1000000) := Lib.hid (by rw [allF_len hAF]; exact hfl)
  have HFIN : Hid (∀ (q w5 wF : World) (cap : Nat) (g : Nat), Below w4.heap.size w4 q → OwnR fnE 60 q w4.heap.size (.slice (some ⟨g, 0, none⟩) (L.length + 1) cap) (L ++ [⟨⟨a1, n1, k1⟩, ⟨a2, n2, k2⟩, kr, ⟨none, 0, 0⟩⟩]) → GrowX q w5 (fun j => j < w.heap.size + 2) → GrowX w5 wF (fun j => j < w.heap.size + 2) → Below w.heap.size w wF → ∃ LL, ∀ w'', GrowX wF w'' X → ReadR fnE w'' (.slice (some ⟨g, 0, none⟩) (L.length + 1) cap) LL ∧ AllF w'' LL (P.fs ++ [⟨la, lb, kr, []⟩])) := Lib.hid (fun q w5 wF cap g hb how h5 hF hbF => by
    have h4 : w.heap.size + 2 ≤ w4.heap.size := Nat.le_trans HSZ3.out HBB3.out.size
    have hx : ∀ k, (Value.slice (some ⟨g, 0, none⟩) (L.length + 1) cap).ownBlock = some k → ¬ (k < w.heap.size + 2) := fun k hk hk2 => by have := (ownR_lt how k hk).1; omega
    have hy1 : ∀ k, W1.heap.size ≤ k → ¬ (k < w.heap.size + 2) := fun k hk hk2 => by have := HSZ1.out; omega
    have hy2 : ∀ k, w2.heap.size ≤ k → ¬ (k < w.heap.size + 2) := fun k hk hk2 => by have := HSZ2.out; omega
    have how2 := ownR_gx (ownR_gx how h5 hx) hF hx
    refine ⟨_, fun w'' hg => ⟨ownR_read (ownR_gx how2 hg (fun k hk q => by have := HX.out k q; have := (ownR_lt how k hk).1; omega)), allF_snoc ⟨ownI_read (ownI_gx (ownI_gx (ownI_gx (ownI_below HO1.out (b_call HBB2.out (b_call HBB3.out hb))) h5 hy1) hF hy1) hg (fun k hk q => by have := HX.out k q; have := HSZ1.out; omega)), ownI_read (ownI_gx (ownI_gx (ownI_gx (ownI_below HO2.out (b_call HBB3.out hb)) h5 hy2) hF hy2) hg (fun k hk q => by have := HX.out k q; have := HSZ2.out; omega)), rfl, readR_nil _⟩ (HAF.out w'' (gx_pre hbF hg)).2⟩⟩)
  have HRR := Lib.hid rr5
  have HRG := Lib.hid rr3
  have HRL : Hid (ReadR fnE w4 (.slice fa fn fc) L) := Lib.hid (readR_below hRL HA.out.be)
  clear hla hlb hlc hfl rr1 rr2 rr3 rr4 rr5 e32 hRL hAF hLL
  go_upto_region 25 with fail
  have HS : Hid (∀ w', Below w4.heap.size w4 w' → (w'.cell? ⟨w.heap.size, 3, none⟩ = some (.slice fa fn fc) ∧ w'.cell? ⟨rg, ro, none⟩ = some (.int .i64 kr))) := Lib.hid (fun w' hw => ⟨(blk4 (ft_below HA.out hw).p).2.2.2.1, ((bcell hw).1 rg ro HRG.out).trans HRR.out⟩)
  clear p0 p1 p2 p3 pf pz r0 r1 r2 r3 rf rz
  clear c0 c1 c2 c3 bz
  refine wp_region_E (S := fun w' => w'.cell? ⟨w.heap.size, 3, none⟩ = some (.slice fa fn fc) ∧ w'.cell? ⟨rg, ro, none⟩ = some (.int .i64 kr)) 13 (by kernel_rfl) (HS.out _ (b_drew (Below.refl _ _))) (fun hHeld => ?_)
  (refine wpAnyE_take (n := 12) (i := 1) (v := ?_) rfl (by kernel_rfl) (by kernel_rfl) (by kernel_rfl) (by kernel_rfl) (by kernel_rfl) (fun _ _ _ h => h) (Or.inl ⟨by rfl, ?_⟩) hHeld ?_; rotate_left; (focus (intro w hSw; (try dsimp only at hSw); go_simp; try (with_reducible rfl))); (try simp only [Act.put, List.getElem_toArray, List.getElem_cons_succ, List.getElem_cons_zero, List.setIfInBounds_toArray, List.set_cons_zero, List.set_cons_succ]))
  (refine wpAnyE_take (n := 12) (i := 2) (v := ?_) rfl (by kernel_rfl) (by kernel_rfl) (by kernel_rfl) (by kernel_rfl) (by kernel_rfl) (fun _ _ _ h => h) (Or.inl ⟨by rfl, ?_⟩) hHeld ?_; rotate_left; (focus (intro w hSw; (try dsimp only at hSw); go_simp; try (with_reducible rfl))); (try simp only [Act.put, List.getElem_toArray, List.getElem_cons_succ, List.getElem_cons_zero, List.setIfInBounds_toArray, List.set_cons_zero, List.set_cons_succ]))
  (refine wpAnyE_take (n := 12) (i := 4) (v := ?_) rfl (by kernel_rfl) (by kernel_rfl) (by kernel_rfl) (by kernel_rfl) (by kernel_rfl) (fun _ _ _ h => h) (Or.inl ⟨by rfl, ?_⟩) hHeld ?_; rotate_left; (focus (intro w hSw; (try dsimp only at hSw); go_simp; try (with_reducible rfl))); (try simp only [Act.put, List.getElem_toArray, List.getElem_cons_succ, List.getElem_cons_zero, List.setIfInBounds_toArray, List.set_cons_zero, List.set_cons_succ]))
  (refine wpAnyE_take (n := 12) (i := 5) (v := ?_) rfl (by kernel_rfl) (by kernel_rfl) (by kernel_rfl) (by kernel_rfl) (by kernel_rfl) (fun _ _ _ h => h) (Or.inl ⟨by rfl, ?_⟩) hHeld ?_; rotate_left; (focus (intro w hSw; (try dsimp only at hSw); go_simp; try (with_reducible rfl))); (try simp only [Act.put, List.getElem_toArray, List.getElem_cons_succ, List.getElem_cons_zero, List.setIfInBounds_toArray, List.set_cons_zero, List.set_cons_succ]))
  (refine wpAnyE_take (n := 12) (i := 6) (v := ?_) rfl (by kernel_rfl) (by kernel_rfl) (by kernel_rfl) (by kernel_rfl) (by kernel_rfl) (fun _ _ _ h => h) (Or.inl ⟨by rfl, ?_⟩) hHeld ?_; rotate_left; (focus (intro w hSw; (try dsimp only at hSw); go_simp; try (with_reducible rfl))); (try simp only [Act.put, List.getElem_toArray, List.getElem_cons_succ, List.getElem_cons_zero, List.setIfInBounds_toArray, List.set_cons_zero, List.set_cons_succ]))
  (refine wpAnyE_take (n := 12) (i := 7) (v := ?_) rfl (by kernel_rfl) (by kernel_rfl) (by kernel_rfl) (by kernel_rfl) (by kernel_rfl) (fun _ _ _ h => h) (Or.inl ⟨by rfl, ?_⟩) hHeld ?_; rotate_left; (focus (intro w hSw; (try dsimp only at hSw); go_simp; try (with_reducible rfl))); (try simp only [Act.put, List.getElem_toArray, List.getElem_cons_succ, List.getElem_cons_zero, List.setIfInBounds_toArray, List.set_cons_zero, List.set_cons_succ]))
  (refine wpAnyE_take (n := 12) (i := 8) (v := ?_) rfl (by kernel_rfl) (by kernel_rfl) (by kernel_rfl) (by kernel_rfl) (by kernel_rfl) (fun _ _ _ h => h) (Or.inl ⟨by rfl, ?_⟩) hHeld ?_; rotate_left; (focus (intro w hSw; (try dsimp only at hSw); go_simp; try (with_reducible rfl))); (try simp only [Act.put, List.getElem_toArray, List.getElem_cons_succ, List.getElem_cons_zero, List.setIfInBounds_toArray, List.set_cons_zero, List.set_cons_succ]))
  (refine wpAnyE_take (n := 12) (i := 9) (v := ?_) rfl (by kernel_rfl) (by kernel_rfl) (by kernel_rfl) (by kernel_rfl) (by kernel_rfl) (fun _ _ _ h => h) (Or.inl ⟨by rfl, ?_⟩) hHeld ?_; rotate_left; (focus (intro w hSw; (try dsimp only at hSw); go_simp; try (with_reducible rfl))); (try simp only [Act.put, List.getElem_toArray, List.getElem_cons_succ, List.getElem_cons_zero, List.setIfInBounds_toArray, List.set_cons_zero, List.set_cons_succ]))
  refine wpAnyE_named ?_
  intro q0 hq0
  have HBq0 : Hid (Below w4.heap.size w4 q0) := Lib.hid (by rw [hq0]; exact b_drew (Below.refl _ _))
  clear hq0
  replace hHeld := HS.out _ HBq0.out
  refine wpAnyE_ready (rs := [0, 10]) (by kernel_rfl) (by simp) (AllReadyE.cons rfl (fun K hK => ?_) (AllReadyE.cons rfl (fun K hK => ?_) (AllReadyE.nil)))
  · skip
    go_simp
    refine hK.out _ _ (HS.out _ (b_alloc HBq0.out _)) (fun hHeld => ?_)
    clear hK K
    (try simp only [Act.put, List.getElem_toArray, List.getElem_cons_succ, List.getElem_cons_zero, List.setIfInBounds_toArray, List.set_cons_zero, List.set_cons_succ])
    refine wpAnyE_named ?_
    intro q1 hq1
    have HBq1 : Hid (Below w4.heap.size w4 q1) := Lib.hid (by rw [hq1]; exact b_alloc HBq0.out _)
    obtain ⟨B, hB⟩ : ∃ x, x = q0.heap.size := ⟨_, rfl⟩
    rw [← hB]
    have OWq1 : Hid (OwnR fnE 60 q1 w4.heap.size (.slice (some ⟨B, 0, none⟩) 0 0) []) := Lib.hid (by rw [hq1, hB]; exact own_emptyR HBq0.out.size)
    clear hq1 hB
    replace hHeld := HS.out _ HBq1.out
    refine wpAnyE_ready (rs := [3, 10]) (by kernel_rfl) (by simp) (AllReadyE.cons rfl (fun K hK => ?_) (AllReadyE.cons rfl (fun K hK => ?_) (AllReadyE.nil)))
    · skip
      refine step_appendR rowFn (by rfl) _ _ (by rfl) w4.heap.size _ [] (by rfl) OWq1.out _ L (by rfl) (readR_below HRL.out HBq1.out) (by (have := HLL.out); simp only [List.length_nil]; omega) (by (have := HLL.out); simp only [List.length_nil]; unfold maxLen; omega) HBq1.out.size ?_
      intro V1 q2 ownq2 hgq2
      rw [List.nil_append] at ownq2
      have HBq2 := Lib.hid (b_ownR HBq1.out OWq1.out hgq2)
      have OWq2 := Lib.hid ownq2
      clear ownq2 hgq2
      refine hK.out _ _ (HS.out _ HBq2.out) (fun hHeld => ?_)
      clear hK K
      (try simp only [Act.put, List.getElem_toArray, List.getElem_cons_succ, List.getElem_cons_zero, List.setIfInBounds_toArray, List.set_cons_zero, List.set_cons_succ])
      refine wpAnyE_ready (rs := [10]) (by kernel_rfl) (by simp) (AllReadyE.cons rfl (fun K hK => ?_) AllReadyE.nil)
      go_simp
      refine hK.out _ _ (HS.out _ (b_alloc HBq2.out _)) (fun hHeld => ?_)
      clear hK K
      (try simp only [Act.put, List.getElem_toArray, List.getElem_cons_succ, List.getElem_cons_zero, List.setIfInBounds_toArray, List.set_cons_zero, List.set_cons_succ])
      refine wpAnyE_named ?_
      intro q3 hq3
      have HBq3 : Hid (Below w4.heap.size w4 q3) := Lib.hid (by rw [hq3]; exact b_alloc HBq2.out _)
      obtain ⟨Y, hY⟩ : ∃ x, x = q2.heap.size := ⟨_, rfl⟩
      rw [← hY]
      have HYq3 : Hid (Blk q3 Y (fnE.cells ⟨⟨a1, n1, k1⟩, ⟨a2, n2, k2⟩, kr, ⟨none, 0, 0⟩⟩)) := Lib.hid (by rw [hq3]; exact blk_new3 hY)
      have OWq3 : Hid (OwnR fnE 60 q3 w4.heap.size V1 L) := Lib.hid (by rw [hq3]; exact ownR_alloc OWq2.out _)
      clear hq3 hY
      replace hHeld := HS.out _ HBq3.out
      refine wpAnyE_ready (rs := [11]) (by kernel_rfl) (by simp) (AllReadyE.cons rfl (fun K hK => ?_) AllReadyE.nil)
      refine step_append1 rowFn (by rfl) _ _ (by rfl) (by rfl) (B := w4.heap.size) OWq3.out ⟨⟨a1, n1, k1⟩, ⟨a2, n2, k2⟩, kr, ⟨none, 0, 0⟩⟩ Y 1 (by rfl) HYq3.out (by (have := HLL.out); omega) (by (have := HLL.out); unfold maxLen; omega) HBq3.out.size ?_
      intro g cap q4 ownq4 hgq4 horq4 hlq4
      have HBq4 := Lib.hid (b_ownR HBq3.out OWq3.out hgq4)
      have OWq4 := Lib.hid ownq4
      clear ownq4 hgq4 horq4 hlq4
      refine hK.out _ _ (HS.out _ HBq4.out) (fun hHeld => ?_)
      clear hK K
      (try simp only [Act.put, List.getElem_toArray, List.getElem_cons_succ, List.getElem_cons_zero, List.setIfInBounds_toArray, List.set_cons_zero, List.set_cons_succ])
      (refine wpAnyE_take (n := 12) (i := 12) (v := ?_) rfl (by kernel_rfl) (by kernel_rfl) (by kernel_rfl) (by kernel_rfl) (by kernel_rfl) (fun _ _ _ h => h) (Or.inl ⟨by rfl, ?_⟩) hHeld ?_; rotate_left; (focus (intro w hSw; (try dsimp only at hSw); go_simp; try (with_reducible rfl))); (try simp only [Act.put, List.getElem_toArray, List.getElem_cons_succ, List.getElem_cons_zero, List.setIfInBounds_toArray, List.set_cons_zero, List.set_cons_succ]))
      have hp3 := blk_below HA.out.p HBq4.out
      have p3 := hp3.2.1 3 (by simp)
      have pf := hp3.2.2
      have pz := hp3.1
      clear hp3
      refine wpAnyE_ready (rs := [13]) (by kernel_rfl) (by simp) (AllReadyE.last rfl (fun K hK => ?_))
      go_simp
      refine hK.out _ _ (trivial) (fun hHeld => ?_)
      clear hK K
      (try simp only [Act.put, List.getElem_toArray, List.getElem_cons_succ, List.getElem_cons_zero, List.setIfInBounds_toArray, List.set_cons_zero, List.set_cons_succ])
      refine wpAnyE_done (by kernel_rfl) ?_
      clear p3 pf pz
      refine thenF_named ?_
      intro w5 hw5
      have HAq := Lib.hid (ft_below HA.out HBq4.out)
      have HS5 : Hid (FtAt w w5 pu ⟨ga, gn, gc⟩ pm ⟨some ⟨g, 0, none⟩, L.length + 1, cap⟩ ∧ GrowX q4 w5 (fun j => j < w.heap.size + 2)) := Lib.hid (by rw [hw5]; exact ft_set HAq.out 3 _ rfl)
      have HAo := HA
      clear hw5 HA HAq hHeld
      have HA : Hid (FtAt w w5 pu ⟨ga, gn, gc⟩ pm ⟨some ⟨g, 0, none⟩, L.length + 1, cap⟩) := Lib.hid HS5.out.1
      obtain ⟨p0, p1, p2, p3, pf⟩ := blk4 HA.out.p
      simp only [Sl.v] at p1 p3
      have pz := HA.out.p.1
      obtain ⟨r0, r1, r2, r3, rf⟩ := blk4 HA.out.r
      have rz := HA.out.r.1
      go_wp2_with fail
      refine post_named ?_
      intro wF hwF
      have BF := Lib.hid (ft_fin HA.out)
      have HWF : Hid (wF = ftFin _ (w.heap.size + 1) pu ⟨ga, gn, gc⟩ pm ⟨(some ⟨g, 0, none⟩), (L.length + 1), cap⟩) := Lib.hid hwF
      rw [← HWF.out] at BF
      clear hwF
      obtain ⟨q0, q1, q2, q3, _⟩ := blk4 BF.out.1
      refine bodyPost_ret (v := .tuple #[.agg #[.bool pu, .slice ga gn gc, .int .i64 pm, .slice (some ⟨g, 0, none⟩) (L.length + 1) cap], .int .i64 (3)]) (by simp [results, Tryd.results49, go_sem, q0, q1, q2, q3, Sl.v]) rfl ⟨⟨pu, ⟨ga, gn, gc⟩, pm, ⟨(some ⟨g, 0, none⟩), (L.length + 1), cap⟩⟩, 3, rfl, BF.out.2.1, ?_⟩
      refine ⟨(fun q => by cases q), fun P' j q => ?_⟩
      injection q with q
      injection q with e1 e2
      subst e1 e2
      exact ⟨rfl, HRD.out.u, (keepP_below HRD.out BF.out.2.1).g, HRD.out.m, HFIN.out _ _ _ cap _ HBq4.out OWq4.out HS5.out.2 BF.out.2.2 BF.out.2.1⟩
    · skip
      go_simp
      refine hK.out _ _ (HS.out _ (b_alloc HBq1.out _)) (fun hHeld => ?_)
      clear hK K
      (try simp only [Act.put, List.getElem_toArray, List.getElem_cons_succ, List.getElem_cons_zero, List.setIfInBounds_toArray, List.set_cons_zero, List.set_cons_succ])
      refine wpAnyE_named ?_
      intro q5 hq5
      have HBq5 : Hid (Below w4.heap.size w4 q5) := Lib.hid (by rw [hq5]; exact b_alloc HBq1.out _)
      obtain ⟨Y, hY⟩ : ∃ x, x = q1.heap.size := ⟨_, rfl⟩
      rw [← hY]
      have HYq5 : Hid (Blk q5 Y (fnE.cells ⟨⟨a1, n1, k1⟩, ⟨a2, n2, k2⟩, kr, ⟨none, 0, 0⟩⟩)) := Lib.hid (by rw [hq5]; exact blk_new3 hY)
      have OWq5 : Hid (OwnR fnE 60 q5 w4.heap.size (.slice (some ⟨B, 0, none⟩) 0 0) []) := Lib.hid (by rw [hq5]; exact ownR_alloc OWq1.out _)
      have HNE : Hid (Y ≠ B) := Lib.hid (by have := (ownR_lt OWq1.out B rfl).2; omega)
      clear hq5 hY
      replace hHeld := HS.out _ HBq5.out
      refine wpAnyE_ready (rs := [3]) (by kernel_rfl) (by simp) (AllReadyE.cons rfl (fun K hK => ?_) AllReadyE.nil)
      refine step_appendR rowFn (by rfl) _ _ (by rfl) w4.heap.size _ [] (by rfl) OWq5.out _ L (by rfl) (readR_below HRL.out HBq5.out) (by (have := HLL.out); simp only [List.length_nil]; omega) (by (have := HLL.out); simp only [List.length_nil]; unfold maxLen; omega) HBq5.out.size ?_
      intro V1 q6 ownq6 hgq6
      rw [List.nil_append] at ownq6
      have HBq6 := Lib.hid (b_ownR HBq5.out OWq5.out hgq6)
      have OWq6 := Lib.hid ownq6
      have HYq6 : Hid (Blk q6 Y (fnE.cells ⟨⟨a1, n1, k1⟩, ⟨a2, n2, k2⟩, kr, ⟨none, 0, 0⟩⟩)) := Lib.hid (blk_grown HYq5.out hgq6 (fun e => HNE.out (by injection e)))
      clear ownq6 hgq6
      refine hK.out _ _ (HS.out _ HBq6.out) (fun hHeld => ?_)
      clear hK K
      (try simp only [Act.put, List.getElem_toArray, List.getElem_cons_succ, List.getElem_cons_zero, List.setIfInBounds_toArray, List.set_cons_zero, List.set_cons_succ])
      refine wpAnyE_ready (rs := [11]) (by kernel_rfl) (by simp) (AllReadyE.cons rfl (fun K hK => ?_) AllReadyE.nil)
      refine step_append1 rowFn (by rfl) _ _ (by rfl) (by rfl) (B := w4.heap.size) OWq6.out ⟨⟨a1, n1, k1⟩, ⟨a2, n2, k2⟩, kr, ⟨none, 0, 0⟩⟩ Y 1 (by rfl) HYq6.out (by (have := HLL.out); omega) (by (have := HLL.out); unfold maxLen; omega) HBq6.out.size ?_
      intro g cap q7 ownq7 hgq7 horq7 hlq7
      have HBq7 := Lib.hid (b_ownR HBq6.out OWq6.out hgq7)
      have OWq7 := Lib.hid ownq7
      clear ownq7 hgq7 horq7 hlq7
      refine hK.out _ _ (HS.out _ HBq7.out) (fun hHeld => ?_)
      clear hK K
      (try simp only [Act.put, List.getElem_toArray, List.getElem_cons_succ, List.getElem_cons_zero, List.setIfInBounds_toArray, List.set_cons_zero, List.set_cons_succ])
      (refine wpAnyE_take (n := 12) (i := 12) (v := ?_) rfl (by kernel_rfl) (by kernel_rfl) (by kernel_rfl) (by kernel_rfl) (by kernel_rfl) (fun _ _ _ h => h) (Or.inl ⟨by rfl, ?_⟩) hHeld ?_; rotate_left; (focus (intro w hSw; (try dsimp only at hSw); go_simp; try (with_reducible rfl))); (try simp only [Act.put, List.getElem_toArray, List.getElem_cons_succ, List.getElem_cons_zero, List.setIfInBounds_toArray, List.set_cons_zero, List.set_cons_succ]))
      have hp3 := blk_below HA.out.p HBq7.out
      have p3 := hp3.2.1 3 (by simp)
      have pf := hp3.2.2
      have pz := hp3.1
      clear hp3
      refine wpAnyE_ready (rs := [13]) (by kernel_rfl) (by simp) (AllReadyE.last rfl (fun K hK => ?_))
      go_simp
      refine hK.out _ _ (trivial) (fun hHeld => ?_)
      clear hK K
      (try simp only [Act.put, List.getElem_toArray, List.getElem_cons_succ, List.getElem_cons_zero, List.setIfInBounds_toArray, List.set_cons_zero, List.set_cons_succ])
      refine wpAnyE_done (by kernel_rfl) ?_
      clear p3 pf pz
      refine thenF_named ?_
      intro w5 hw5
      have HAq := Lib.hid (ft_below HA.out HBq7.out)
      have HS5 : Hid (FtAt w w5 pu ⟨ga, gn, gc⟩ pm ⟨some ⟨g, 0, none⟩, L.length + 1, cap⟩ ∧ GrowX q7 w5 (fun j => j < w.heap.size + 2)) := Lib.hid (by rw [hw5]; exact ft_set HAq.out 3 _ rfl)
      have HAo := HA
      clear hw5 HA HAq hHeld
      have HA : Hid (FtAt w w5 pu ⟨ga, gn, gc⟩ pm ⟨some ⟨g, 0, none⟩, L.length + 1, cap⟩) := Lib.hid HS5.out.1
      obtain ⟨p0, p1, p2, p3, pf⟩ := blk4 HA.out.p
      simp only [Sl.v] at p1 p3
      have pz := HA.out.p.1
      obtain ⟨r0, r1, r2, r3, rf⟩ := blk4 HA.out.r
      have rz := HA.out.r.1
      go_wp2_with fail
      refine post_named ?_
      intro wF hwF
      have BF := Lib.hid (ft_fin HA.out)
      have HWF : Hid (wF = ftFin _ (w.heap.size + 1) pu ⟨ga, gn, gc⟩ pm ⟨(some ⟨g, 0, none⟩), (L.length + 1), cap⟩) := Lib.hid hwF
      rw [← HWF.out] at BF
      clear hwF
      obtain ⟨q0, q1, q2, q3, _⟩ := blk4 BF.out.1
      refine bodyPost_ret (v := .tuple #[.agg #[.bool pu, .slice ga gn gc, .int .i64 pm, .slice (some ⟨g, 0, none⟩) (L.length + 1) cap], .int .i64 (3)]) (by simp [results, Tryd.results49, go_sem, q0, q1, q2, q3, Sl.v]) rfl ⟨⟨pu, ⟨ga, gn, gc⟩, pm, ⟨(some ⟨g, 0, none⟩), (L.length + 1), cap⟩⟩, 3, rfl, BF.out.2.1, ?_⟩
      refine ⟨(fun q => by cases q), fun P' j q => ?_⟩
      injection q with q
      injection q with e1 e2
      subst e1 e2
      exact ⟨rfl, HRD.out.u, (keepP_below HRD.out BF.out.2.1).g, HRD.out.m, HFIN.out _ _ _ cap _ HBq7.out OWq7.out HS5.out.2 BF.out.2.2 BF.out.2.1⟩
  · skip
    go_simp
    refine hK.out _ _ (HS.out _ (b_alloc HBq0.out _)) (fun hHeld => ?_)
    clear hK K
    (try simp only [Act.put, List.getElem_toArray, List.getElem_cons_succ, List.getElem_cons_zero, List.setIfInBounds_toArray, List.set_cons_zero, List.set_cons_succ])
    refine wpAnyE_named ?_
    intro q8 hq8
    have HBq8 : Hid (Below w4.heap.size w4 q8) := Lib.hid (by rw [hq8]; exact b_alloc HBq0.out _)
    obtain ⟨Y, hY⟩ : ∃ x, x = q0.heap.size := ⟨_, rfl⟩
    rw [← hY]
    have HYq8 : Hid (Blk q8 Y (fnE.cells ⟨⟨a1, n1, k1⟩, ⟨a2, n2, k2⟩, kr, ⟨none, 0, 0⟩⟩)) := Lib.hid (by rw [hq8]; exact blk_new3 hY)
    clear hq8 hY
    replace hHeld := HS.out _ HBq8.out
    refine wpAnyE_ready (rs := [0]) (by kernel_rfl) (by simp) (AllReadyE.cons rfl (fun K hK => ?_) AllReadyE.nil)
    go_simp
    refine hK.out _ _ (HS.out _ (b_alloc HBq8.out _)) (fun hHeld => ?_)
    clear hK K
    (try simp only [Act.put, List.getElem_toArray, List.getElem_cons_succ, List.getElem_cons_zero, List.setIfInBounds_toArray, List.set_cons_zero, List.set_cons_succ])
    refine wpAnyE_named ?_
    intro q9 hq9
    have HBq9 : Hid (Below w4.heap.size w4 q9) := Lib.hid (by rw [hq9]; exact b_alloc HBq8.out _)
    obtain ⟨B, hB⟩ : ∃ x, x = q8.heap.size := ⟨_, rfl⟩
    rw [← hB]
    have OWq9 : Hid (OwnR fnE 60 q9 w4.heap.size (.slice (some ⟨B, 0, none⟩) 0 0) []) := Lib.hid (by rw [hq9, hB]; exact own_emptyR HBq8.out.size)
    have HYq9 : Hid (Blk q9 Y (fnE.cells ⟨⟨a1, n1, k1⟩, ⟨a2, n2, k2⟩, kr, ⟨none, 0, 0⟩⟩)) := Lib.hid (by rw [hq9]; exact blk_alloc HYq8.out _)
    have HNE : Hid (Y ≠ B) := Lib.hid (by have := HYq8.out.1; omega)
    clear hq9 hB
    replace hHeld := HS.out _ HBq9.out
    refine wpAnyE_ready (rs := [3]) (by kernel_rfl) (by simp) (AllReadyE.cons rfl (fun K hK => ?_) AllReadyE.nil)
    refine step_appendR rowFn (by rfl) _ _ (by rfl) w4.heap.size _ [] (by rfl) OWq9.out _ L (by rfl) (readR_below HRL.out HBq9.out) (by (have := HLL.out); simp only [List.length_nil]; omega) (by (have := HLL.out); simp only [List.length_nil]; unfold maxLen; omega) HBq9.out.size ?_
    intro V1 q10 ownq10 hgq10
    rw [List.nil_append] at ownq10
    have HBq10 := Lib.hid (b_ownR HBq9.out OWq9.out hgq10)
    have OWq10 := Lib.hid ownq10
    have HYq10 : Hid (Blk q10 Y (fnE.cells ⟨⟨a1, n1, k1⟩, ⟨a2, n2, k2⟩, kr, ⟨none, 0, 0⟩⟩)) := Lib.hid (blk_grown HYq9.out hgq10 (fun e => HNE.out (by injection e)))
    clear ownq10 hgq10
    refine hK.out _ _ (HS.out _ HBq10.out) (fun hHeld => ?_)
    clear hK K
    (try simp only [Act.put, List.getElem_toArray, List.getElem_cons_succ, List.getElem_cons_zero, List.setIfInBounds_toArray, List.set_cons_zero, List.set_cons_succ])
    refine wpAnyE_ready (rs := [11]) (by kernel_rfl) (by simp) (AllReadyE.cons rfl (fun K hK => ?_) AllReadyE.nil)
    refine step_append1 rowFn (by rfl) _ _ (by rfl) (by rfl) (B := w4.heap.size) OWq10.out ⟨⟨a1, n1, k1⟩, ⟨a2, n2, k2⟩, kr, ⟨none, 0, 0⟩⟩ Y 1 (by rfl) HYq10.out (by (have := HLL.out); omega) (by (have := HLL.out); unfold maxLen; omega) HBq10.out.size ?_
    intro g cap q11 ownq11 hgq11 horq11 hlq11
    have HBq11 := Lib.hid (b_ownR HBq10.out OWq10.out hgq11)
    have OWq11 := Lib.hid ownq11
    clear ownq11 hgq11 horq11 hlq11
    refine hK.out _ _ (HS.out _ HBq11.out) (fun hHeld => ?_)
    clear hK K
    (try simp only [Act.put, List.getElem_toArray, List.getElem_cons_succ, List.getElem_cons_zero, List.setIfInBounds_toArray, List.set_cons_zero, List.set_cons_succ])
    (refine wpAnyE_take (n := 12) (i := 12) (v := ?_) rfl (by kernel_rfl) (by kernel_rfl) (by kernel_rfl) (by kernel_rfl) (by kernel_rfl) (fun _ _ _ h => h) (Or.inl ⟨by rfl, ?_⟩) hHeld ?_; rotate_left; (focus (intro w hSw; (try dsimp only at hSw); go_simp; try (with_reducible rfl))); (try simp only [Act.put, List.getElem_toArray, List.getElem_cons_succ, List.getElem_cons_zero, List.setIfInBounds_toArray, List.set_cons_zero, List.set_cons_succ]))
    have hp3 := blk_below HA.out.p HBq11.out
    have p3 := hp3.2.1 3 (by simp)
    have pf := hp3.2.2
    have pz := hp3.1
    clear hp3
    refine wpAnyE_ready (rs := [13]) (by kernel_rfl) (by simp) (AllReadyE.last rfl (fun K hK => ?_))
    go_simp
    refine hK.out _ _ (trivial) (fun hHeld => ?_)
    clear hK K
    (try simp only [Act.put, List.getElem_toArray, List.getElem_cons_succ, List.getElem_cons_zero, List.setIfInBounds_toArray, List.set_cons_zero, List.set_cons_succ])
    refine wpAnyE_done (by kernel_rfl) ?_
    clear p3 pf pz
    refine thenF_named ?_
    intro w5 hw5
    have HAq := Lib.hid (ft_below HA.out HBq11.out)
    have HS5 : Hid (FtAt w w5 pu ⟨ga, gn, gc⟩ pm ⟨some ⟨g, 0, none⟩, L.length + 1, cap⟩ ∧ GrowX q11 w5 (fun j => j < w.heap.size + 2)) := Lib.hid (by rw [hw5]; exact ft_set HAq.out 3 _ rfl)
    have HAo := HA
    clear hw5 HA HAq hHeld
    have HA : Hid (FtAt w w5 pu ⟨ga, gn, gc⟩ pm ⟨some ⟨g, 0, none⟩, L.length + 1, cap⟩) := Lib.hid HS5.out.1
    obtain ⟨p0, p1, p2, p3, pf⟩ := blk4 HA.out.p
    simp only [Sl.v] at p1 p3
    have pz := HA.out.p.1
    obtain ⟨r0, r1, r2, r3, rf⟩ := blk4 HA.out.r
    have rz := HA.out.r.1
    go_wp2_with fail
    refine post_named ?_
    intro wF hwF
    have BF := Lib.hid (ft_fin HA.out)
    have HWF : Hid (wF = ftFin _ (w.heap.size + 1) pu ⟨ga, gn, gc⟩ pm ⟨(some ⟨g, 0, none⟩), (L.length + 1), cap⟩) := Lib.hid hwF
    rw [← HWF.out] at BF
    clear hwF
    obtain ⟨q0, q1, q2, q3, _⟩ := blk4 BF.out.1
    refine bodyPost_ret (v := .tuple #[.agg #[.bool pu, .slice ga gn gc, .int .i64 pm, .slice (some ⟨g, 0, none⟩) (L.length + 1) cap], .int .i64 (3)]) (by simp [results, Tryd.results49, go_sem, q0, q1, q2, q3, Sl.v]) rfl ⟨⟨pu, ⟨ga, gn, gc⟩, pm, ⟨(some ⟨g, 0, none⟩), (L.length + 1), cap⟩⟩, 3, rfl, BF.out.2.1, ?_⟩
    refine ⟨(fun q => by cases q), fun P' j q => ?_⟩
    injection q with q
    injection q with e1 e2
    subst e1 e2
    exact ⟨rfl, HRD.out.u, (keepP_below HRD.out BF.out.2.1).g, HRD.out.m, HFIN.out _ _ _ cap _ HBq11.out OWq11.out HS5.out.2 BF.out.2.2 BF.out.2.1⟩
end Go.Proofs.YtedmjlhgpdeafaaDoor
