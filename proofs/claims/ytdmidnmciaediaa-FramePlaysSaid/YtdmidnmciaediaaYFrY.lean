/- Layer 28: the contracts of the program's Go and Frame. Conditions: those stated. -/
import Derived.Test.YtdmidnmciaediaaYFrX
import Derived.Test.YtdmidnmciaediaaYHeldE
namespace Go.Proofs.Ytdmidnmciaediaa
open Go.RowKit
set_option linter.unusedVariables false
set_option linter.unusedSimpArgs false
attribute [local go_sem] over_cell over_frozen
variable {w0 w w' : World} {s : Nat} {p : PrV} {lv : Sl} {ds : List FrD} {L : List FrM} {d : FrD} {m : FrM}
set_option maxRecDepth 100000 in
set_option maxHeartbeats 2000000 in
theorem fgo_out {P : PrM} (h : FrsAt w0 w s p lv (ds ++ [d]) (L ++ [m])) (hP : ReadP w0 p P) (k : Nat) (hk : k < P.fs.length) (hf : m.f = k) (a : Int) (hcl : P.fs[k].code.length ≤ 100) (ha : ¬ (0 ≤ a ∧ a < P.fs[k].code.length)) : Calls Try.prog 38 #[fp s, .int .i64 a] w fun e w' => e = .returned (.int .i64 3) ∧ Below w.heap.size w w' := by
  have HF := Lib.hid (ftop_any h)
  obtain ⟨c0, c1, _, _, cf⟩ := fr_cells (frs_ok h)
  have hdz := (frs_ok h).hd.1
  obtain ⟨s3, _, _⟩ := frs_cells h
  have sz := h.hd.1
  obtain ⟨fl1, fl2, fl3⟩ := fns_len hP
  have fl4 := cap_le fl3
  obtain ⟨pb, po, epa, pv, plv, cv, hfn⟩ := fns_at hP hk
  have hfw := fnAt_below hfn h.be
  obtain ⟨_, ccap, ecv, hc1, hc2⟩ := readR_len hfn.rc
  injection ecv with _ ecn _
  have f3 := hfw.c
  have fz := hfw.lt
  rw [fl1, epa] at s3
  rw [hf] at c0
  have k0 : (0 : Int) ≤ k := by omega
  have k1 : (k : Int) < P.fs.length := by omega
  have kc : (k : Int) < p.f.c := by omega
  obtain ⟨N, hN⟩ : ∃ N, N = P.fs[k].code.length := ⟨_, rfl⟩
  rw [ecn, ← hN] at f3
  have n9 : (N : Int) ≤ 100 := by omega
  have ha2 : a < 0 ∨ (0 ≤ a ∧ (N : Int) ≤ a) := by omega
  clear h hf hN hP hfn hfw hc1 hc2 fl1 fl2 fl3 ecn ha epa
  unfold fp at *
  rcases ha2 with a1 | ⟨a1, a2⟩
  · skip
    have d1 : decide (a < 0) = true := decide_eq_true a1
    go_enter Try.func38, Try.ntmps38
    go_wp2_with fail
    refine HF.out.mono ?_
    rintro e w1 ⟨rfl, rfl⟩
    go_upto_region 4 with fail
    go_big_quiet (fail)
    go_wp2_with fail
    go_ret
    exact ⟨rfl, b_drewN (Below.refl _ _) _⟩
  · skip
    have d1 : decide (a < 0) = false := decide_eq_false (by omega)
    have d2 : decide ((N : Int) ≤ a) = true := decide_eq_true a2
    have a3 : ¬ (a < 0) := by omega
    go_enter Try.func38, Try.ntmps38
    go_wp2_with fail
    refine HF.out.mono ?_
    rintro e w1 ⟨rfl, rfl⟩
    go_upto_region 4 with fail
    go_big_quiet (fail)
    go_wp2_with fail
    go_ret
    exact ⟨rfl, b_drewN (Below.refl _ _) _⟩
set_option maxRecDepth 100000 in
set_option maxHeartbeats 2000000 in
theorem fgo_any {P : PrM} (h : FrsAt w0 w s p lv (ds ++ [d]) (L ++ [m])) (hP : ReadP w0 p P) (k : Nat) (hk : k < P.fs.length) (hf : m.f = k) (a : Int) (hcl : P.fs[k].code.length ≤ 100) (ha0 : 0 ≤ a) (ha1 : a < P.fs[k].code.length) : Calls Try.prog 38 #[fp s, .int .i64 a] w (FSetEnd w0 w s p lv (ds ++ [d]) L ⟨m.f, a, m.loc, m.stk⟩) := by
  have HF := Lib.hid (ftop_any h)
  obtain ⟨c0, c1, _, _, cf⟩ := fr_cells (frs_ok h)
  have hdz := (frs_ok h).hd.1
  obtain ⟨s3, _, _⟩ := frs_cells h
  have sz := h.hd.1
  obtain ⟨fl1, fl2, fl3⟩ := fns_len hP
  have fl4 := cap_le fl3
  obtain ⟨pb, po, epa, pv, plv, cv, hfn⟩ := fns_at hP hk
  have hfw := fnAt_below hfn h.be
  obtain ⟨_, ccap, ecv, hc1, hc2⟩ := readR_len hfn.rc
  injection ecv with _ ecn _
  have f3 := hfw.c
  have fz := hfw.lt
  rw [fl1, epa] at s3
  rw [hf] at c0
  have k0 : (0 : Int) ≤ k := by omega
  have k1 : (k : Int) < P.fs.length := by omega
  have kc : (k : Int) < p.f.c := by omega
  obtain ⟨N, hN⟩ : ∃ N, N = P.fs[k].code.length := ⟨_, rfl⟩
  rw [ecn, ← hN] at f3
  have n9 : (N : Int) ≤ 100 := by omega
  have d1 : decide (a < 0) = false := decide_eq_false (by omega)
  have d2 : decide ((N : Int) ≤ a) = false := decide_eq_false (by omega)
  have a3 : ¬ (a < 0) := by omega
  have a4 : ¬ ((N : Int) ≤ a) := by omega
  have HFIN : Hid (∀ W9, Below w.heap.size w W9 → FSetEnd w0 w s p lv (ds ++ [d]) L ⟨m.f, a, m.loc, m.stk⟩ (.returned (.int .i64 0)) (W9.setCell ⟨d.b, 1, none⟩ (.int .i64 a))) := Lib.hid (fun W9 hb => by
    have h9 := frs_below h hb
    have ho := frs_ok h9
    have hgr : GrowX W9 (W9.setCell ⟨d.b, 1, none⟩ (.int .i64 a)) (fun j => j = d.b ∨ d.owns j) := gx_set (gx_refl _ _) (p := ⟨d.b, 1, none⟩) (Or.inr (Or.inl rfl)) _
    have hne : ∀ j, d.owns j → j ≠ d.b := fun j hj e => by
      have t := frOk_ty ho j hj
      rw [e, ho.ty] at t; injection t with t; exact absurd t (by decide)
    have hok : FrOk w0.heap.size (W9.setCell ⟨d.b, 1, none⟩ (.int .i64 a)) d ⟨m.f, a, m.loc, m.stk⟩ := ⟨blk_set ho.hd 1 _, by rw [tyB_set]; exact ho.ty, ownsRow_setCell_other ho.l (a := ⟨d.b, 1, none⟩) (fun e => hne d.b (Or.inl e) rfl) _, ownsRow_setCell_other ho.s (a := ⟨d.b, 1, none⟩) (fun e => hne d.b (Or.inr e) rfl) _, ho.ne, ho.lo⟩
    refine ⟨rfl, frs_top h9 hgr hok rfl (fun k hk => Or.inl hk), grT_trans (grT_below hb) (grT_of hgr (fun j hj hx => ?_))⟩
    rcases hx with rfl | hx
    · exact Or.inr (Or.inr (Or.inl ho.ty))
    · exact Or.inr (Or.inr (Or.inr (frOk_ty ho j hx))))
  clear h hf hN hP hfn hfw hc1 hc2 fl1 fl2 fl3 ecn epa
  unfold fp at *
  go_enter Try.func38, Try.ntmps38
  go_wp2_with fail
  refine HF.out.mono ?_
  rintro e w1 ⟨rfl, rfl⟩
  go_upto_region 4 with fail
  go_big_quiet (fail)
  obtain ⟨W1, hW1⟩ : ∃ x, x = w.drewN nq := ⟨_, rfl⟩
  rw [← hW1]
  have hbD : Below w.heap.size w W1 := by rw [hW1]; exact b_drewN (Below.refl _ _) _
  have c0' := ((bcell hbD).1 _ _ hdz).trans c0
  have c1' := ((bcell hbD).1 _ _ hdz).trans c1
  have cf' : ∀ i, W1.frozen? ⟨d.b, i, none⟩ = false := fun i => ((bcell hbD).2 _ _ hdz).trans (cf i)
  have hdz' := Nat.lt_of_lt_of_le hdz hbD.size
  have HBD := Lib.hid hbD
  clear hW1 hbD c0 c1 cf hdz s3 sz f3 fz
  go_wp2_with fail
  go_ret
  exact HFIN.out W1 HBD.out
theorem fframe_none (h : FrsAt w0 w s p lv ds L) (k : Int) (hk : L.length ≤ k) (hL : L.length ≤ 24) : Calls Try.prog 26 #[fp s, .int .i64 k] w fun e w' => e = .returned (.agg #[.int .i64 0, .int .i64 0, .slice none 0 0, .slice none 0 0]) ∧ Below w.heap.size w w' := by
  have HF := Lib.hid (fun w' (hb : Below w.heap.size w w') => flen_any (frs_below h hb))
  have k0 : ¬ (k < 0) := by omega
  unfold fp at *
  clear h
  go_enter Try.func26, Try.ntmps26
  go_wp2_with fail
  refine (HF.out _ (b_alloc (Below.refl _ _) _)).mono ?_
  rintro e w1 ⟨rfl, rfl⟩
  go_wp2_with fail
  exact bodyPost_ret (v := .agg #[.int .i64 0, .int .i64 0, .slice none 0 0, .slice none 0 0]) (by simp [results, Try.results26, go_sem]) rfl ⟨rfl, by first | exact b_alloc (Below.refl _ _) _ | exact b_grown (b_alloc (Below.refl _ _) _) (gb_set (gb_set (gb_set (gb_set (gb_refl _ (some w.heap.size)) _ _ _) _ _ _) _ _ _) _ _ _) (Nat.le_refl _)⟩
def FrameEnd (w : World) (m : FrM) (e : Ending) (w' : World) : Prop := ∃ a1 c1 a2 c2, e = .returned (.agg #[.int .i64 m.f, .int .i64 m.at_, .slice a1 m.loc.length c1, .slice a2 m.stk.length c2]) ∧ ReadR valE w' (.slice a1 m.loc.length c1) m.loc ∧ ReadR valE w' (.slice a2 m.stk.length c2) m.stk ∧ Below w.heap.size w w'
set_option maxRecDepth 100000 in
set_option maxHeartbeats 2000000 in
theorem fframe_any (h : FrsAt w0 w s p lv ds L) (k : Nat) (hk : k < L.length) (hL : L.length ≤ 24) (hl1 : L[k].loc.length ≤ 100) (hl2 : L[k].stk.length ≤ 100) : Calls Try.prog 26 #[fp s, .int .i64 k] w (FrameEnd w L[k]) := by
  have HF := Lib.hid (fun w' (hb : Below w.heap.size w w') => flen_any (frs_below h hb))
  obtain ⟨ll1, ll2⟩ := frs_len h
  have hkd : k < ds.length := by omega
  have ho := frAll_at h.fr k hkd hk
  obtain ⟨c0, c1, c2, c3, cf⟩ := fr_cells (w0 := w0) ho
  have hdz := ho.hd.1
  obtain ⟨_, s4, _⟩ := frs_cells h
  have sz := h.hd.1
  obtain ⟨pb, pcap, epl, _, hpz, hpc, hpm, hpB⟩ := ownR_form h.row (by rw [List.length_map]; omega)
  have epl2 : Value.slice lv.a lv.n lv.c = .slice (some ⟨pb, 0, none⟩) (ds.map FrD.b).length pcap := epl
  injection epl2 with e1 _ e3
  have pk := hpB.2.1 (k * 1) (by rw [row_length]; show k * 1 < _ * 1; rw [List.length_map]; omega)
  have pk2 : w.cell? ⟨pb, k, none⟩ = some (.pointer (some ⟨ds[k].b, 0, none⟩)) := by
    have z := row_at ptrE (ds.map FrD.b) k (by rw [List.length_map]; exact hkd) 0 (by decide)
    rw [← List.getElem?_eq_getElem] at pk
    have e9 : k * ptrE.size + 0 = k * 1 := by show k * 1 + 0 = k * 1; omega
    rw [e9] at z
    rw [z] at pk
    rw [Nat.mul_one] at pk
    rw [pk, List.getElem_map]; rfl
  rw [e1] at s4
  have pcap2 := cap_le hpm
  have HO := Lib.hid ho
  have HR1 : Hid (ReadR valE w (.slice ds[k].lv.a L[k].loc.length ds[k].lv.c) L[k].loc) := Lib.hid (by have z := ownR_read ho.l; unfold Sl.v at z; rw [(own_sl ho.l).1] at z; exact z)
  have HR2 : Hid (ReadR valE w (.slice ds[k].sv.a L[k].stk.length ds[k].sv.c) L[k].stk) := Lib.hid (by have z := ownR_read ho.s; unfold Sl.v at z; rw [(own_sl ho.s).1] at z; exact z)
  have kl : (k : Int) < L.length := by omega
  have k0 : (0 : Int) ≤ k := by omega
  have nk : ¬ ((L.length : Int) ≤ k) := by omega
  have kc : (k : Int) < lv.c := by rw [List.length_map] at hpc; omega
  have HL1 := Lib.hid hl1; have HL2 := Lib.hid hl2
  obtain ⟨mm, hmm⟩ : ∃ mm, mm = L[k] := ⟨_, rfl⟩
  obtain ⟨dd, hdd⟩ : ∃ dd, dd = ds[k] := ⟨_, rfl⟩
  rw [← hmm] at c0 c1 c2 c3 HR1 HR2 HL1 HL2 ⊢
  rw [← hdd] at c0 c1 c2 c3 cf hdz HR1 HR2 pk2
  clear h ll1 ll2 hkd ho epl hpz hpc hpm pk e1 e3 HO hmm hdd hL hl1 hl2
  obtain ⟨mf, mat, mloc, mstk⟩ := mm
  obtain ⟨db, ⟨xa, xn, xc⟩, ⟨ya, yn, yc⟩⟩ := dd
  simp only at *
  unfold fp at *
  have hpz := hpB.1
  clear hpB
  go_enter Try.func26, Try.ntmps26
  go_upto_region 1 with fail
  refine wp_named ?_
  intro W hW
  have X0 : Blk W w.heap.size [.int .i64 0, .int .i64 0, .slice none 0 0, .slice none 0 0] := by rw [hW]; exact blk_new _ _ _
  have HX0 := Lib.hid X0
  have HBW := Lib.hid (show Below w.heap.size w W by rw [hW]; exact b_alloc (Below.refl _ _) _)
  have hbc := (bcell HBW.out).1
  have s4' := (hbc _ _ sz).trans s4
  have sz' := Nat.lt_of_lt_of_le sz HBW.out.size
  have p4' := (hbc _ _ hpz).trans pk2
  have pz' := Nat.lt_of_lt_of_le hpz HBW.out.size
  have c0' := (hbc _ _ hdz).trans c0
  have c1' := (hbc _ _ hdz).trans c1
  have c2' := (hbc _ _ hdz).trans c2
  have c3' := (hbc _ _ hdz).trans c3
  have dz' := Nat.lt_of_lt_of_le hdz HBW.out.size
  clear hW X0 s4 sz pk2 hpz c0 c1 c2 c3 hdz hbc cf
  go_wp2_with fail
  refine (HF.out _ HBW.out).mono ?_
  rintro e w1 ⟨rfl, rfl⟩
  go_upto_region 4 with fail
  refine wp_named ?_
  intro W2 hW2
  have S2 : Blk W2 W.heap.size [.int .i64 mf, .int .i64 mat, .slice xa mloc.length xc, .slice ya mstk.length yc] ∧ Below W.heap.size W W2 := by
    rw [hW2]
    exact ⟨blk_new _ _ _, b_alloc (Below.refl _ _) _⟩
  have HX2 := Lib.hid S2.1
  have HX02 := Lib.hid (blk_below HX0.out S2.2)
  have HB2 := Lib.hid (b_call HBW.out S2.2)
  have HTX : Hid (tyB W2 W.heap.size = some FRMT) := Lib.hid (by rw [hW2]; exact tyB_new _ _ _)
  clear hW2 S2 s4' sz' p4' pz' c0' c1' c2' c3' dz'
  have HS : Hid (∀ w', Below W2.heap.size W2 w' → w'.cell? ⟨W.heap.size, 2, none⟩ = some (.slice xa mloc.length xc) ∧ w'.cell? ⟨W.heap.size, 3, none⟩ = some (.slice ya mstk.length yc)) := Lib.hid (fun w' hb => by
    obtain ⟨_, _, x2, x3, _⟩ := blk4 (blk_below HX2.out hb)
    exact ⟨x2, x3⟩)
  have HC1 := Lib.hid (fun w' (hb : Below w.heap.size w w') => vclone_any (w := w') (s := ⟨xa, mloc.length, xc⟩) (L := mloc) (readR_below HR1.out hb) HL1.out)
  have HC2 := Lib.hid (fun w' (hb : Below w.heap.size w w') => vclone_any (w := w') (s := ⟨ya, mstk.length, yc⟩) (L := mstk) (readR_below HR2.out hb) HL2.out)
  refine wp_region_F (S := fun w' => w'.cell? ⟨W.heap.size, 2, none⟩ = some (.slice xa mloc.length xc) ∧ w'.cell? ⟨W.heap.size, 3, none⟩ = some (.slice ya mstk.length yc)) [7, 9] (by kernel_rfl) (HS.out _ (b_drew (Below.refl _ _))) (fun hHeld => ?_)
  (refine wpAnyF_takeP (i := 0) (v := ?_) rfl (by kernel_rfl) (by kernel_rfl) (by kernel_rfl) (fun _ _ _ h => h) (Or.inl ⟨by rfl, ?_⟩) ?_; rotate_left; (focus (intro w hSw; (try dsimp only at hSw); go_simp; try (with_reducible rfl))); (try simp only [Act.put, List.getElem_toArray, List.getElem_cons_succ, List.getElem_cons_zero, List.setIfInBounds_toArray, List.set_cons_zero, List.set_cons_succ]))
  (refine wpAnyF_take (n := 40) (i := 1) (v := ?_) rfl (by kernel_rfl) (by kernel_rfl) (by kernel_rfl) (by kernel_rfl) (by kernel_rfl) (fun _ _ _ h => h) (Or.inl ⟨by rfl, ?_⟩) hHeld ?_; rotate_left; (focus (intro w hSw; (try dsimp only at hSw); go_simp; try (with_reducible rfl))); (try simp only [Act.put, List.getElem_toArray, List.getElem_cons_succ, List.getElem_cons_zero, List.setIfInBounds_toArray, List.set_cons_zero, List.set_cons_succ]))
  (refine wpAnyF_takeP (i := 3) (v := ?_) rfl (by kernel_rfl) (by kernel_rfl) (by kernel_rfl) (fun _ _ _ h => h) (Or.inl ⟨by rfl, ?_⟩) ?_; rotate_left; (focus (intro w hSw; (try dsimp only at hSw); go_simp; try (with_reducible rfl))); (try simp only [Act.put, List.getElem_toArray, List.getElem_cons_succ, List.getElem_cons_zero, List.setIfInBounds_toArray, List.set_cons_zero, List.set_cons_succ]))
  (refine wpAnyF_take (n := 40) (i := 4) (v := ?_) rfl (by kernel_rfl) (by kernel_rfl) (by kernel_rfl) (by kernel_rfl) (by kernel_rfl) (fun _ _ _ h => h) (Or.inl ⟨by rfl, ?_⟩) hHeld ?_; rotate_left; (focus (intro w hSw; (try dsimp only at hSw); go_simp; try (with_reducible rfl))); (try simp only [Act.put, List.getElem_toArray, List.getElem_cons_succ, List.getElem_cons_zero, List.setIfInBounds_toArray, List.set_cons_zero, List.set_cons_succ]))
  refine wpAnyF_ready (rs := [2]) (by kernel_rfl) (by simp) (AllReadyF.cons rfl (fun K hK => ?_) AllReadyF.nil)
  go_simp
  refine (HC1.out _ (b_drew HB2.out)).mono ?_
  rintro e w3 ⟨⟨ta, tn, tc⟩, rfl, ho3, hb3⟩
  have HO3 := Lib.hid ho3
  have HB3 := Lib.hid (b_call (b_drew (Below.refl W2.heap.size W2)) hb3)
  have hn3 := (own_sl ho3).1
  simp only at hn3
  unfold Sl.v
  simp only
  subst hn3
  clear ho3 hb3
  refine hK.out _ _ (HS.out _ HB3.out) (fun hHeld => ?_)
  clear hK K
  (try simp only [Act.put, List.getElem_toArray, List.getElem_cons_succ, List.getElem_cons_zero, List.setIfInBounds_toArray, List.set_cons_zero, List.set_cons_succ])
  (refine wpAnyF_takeP (i := 6) (v := ?_) rfl (by kernel_rfl) (by kernel_rfl) (by kernel_rfl) (fun _ _ _ h => h) (Or.inl ⟨by rfl, ?_⟩) ?_; rotate_left; (focus (intro w hSw; (try dsimp only at hSw); go_simp; try (with_reducible rfl))); (try simp only [Act.put, List.getElem_toArray, List.getElem_cons_succ, List.getElem_cons_zero, List.setIfInBounds_toArray, List.set_cons_zero, List.set_cons_succ]))
  refine wpAnyF_ready (rs := [5]) (by kernel_rfl) (by simp) (AllReadyF.cons rfl (fun K hK => ?_) AllReadyF.nil)
  go_simp
  refine (HC2.out _ (b_call HB2.out HB3.out)).mono ?_
  rintro e w4 ⟨⟨ra, rn, rc⟩, rfl, ho4, hb4⟩
  have HO4 := Lib.hid ho4
  have HB4 := Lib.hid (b_call HB3.out hb4)
  have HO34 := Lib.hid (ownR_below HO3.out hb4)
  have hn4 := (own_sl ho4).1
  simp only at hn4
  unfold Sl.v
  simp only
  subst hn4
  clear ho4 hb4
  refine hK.out _ _ (HS.out _ HB4.out) (fun hHeld => ?_)
  clear hK K
  (try simp only [Act.put, List.getElem_toArray, List.getElem_cons_succ, List.getElem_cons_zero, List.setIfInBounds_toArray, List.set_cons_zero, List.set_cons_succ])
  have HX4 := Lib.hid (blk_below HX2.out HB4.out)
  have HX04 := Lib.hid (blk_below HX02.out HB4.out)
  have HT4 := Lib.hid (tyB_call HTX.out HB4.out)
  obtain ⟨x0, x1, x2, x3, xf⟩ := blk4 HX4.out
  have xz := HX4.out.1
  refine wpAnyF_ready (rs := [7]) (by kernel_rfl) (by simp) (AllReadyF.free rfl (by decide) (fun K hK => ?_) AllReadyF.nil)
  go_simp
  refine hK.out _ _ (trivial) (fun hHeld => ?_)
  clear hK K
  (try simp only [Act.put, List.getElem_toArray, List.getElem_cons_succ, List.getElem_cons_zero, List.setIfInBounds_toArray, List.set_cons_zero, List.set_cons_succ])
  (refine wpAnyF_takeP (i := 8) (v := ?_) rfl (by kernel_rfl) (by kernel_rfl) (by kernel_rfl) (fun _ _ _ h => h) (Or.inl ⟨by rfl, ?_⟩) ?_; rotate_left; (focus (intro w hSw; (try dsimp only at hSw); go_simp; try (with_reducible rfl))); (try simp only [Act.put, List.getElem_toArray, List.getElem_cons_succ, List.getElem_cons_zero, List.setIfInBounds_toArray, List.set_cons_zero, List.set_cons_succ]))
  refine wpAnyF_ready (rs := [9]) (by kernel_rfl) (by simp) (AllReadyF.free rfl (by decide) (fun K hK => ?_) AllReadyF.nil)
  go_simp
  refine hK.out _ _ (trivial) (fun hHeld => ?_)
  clear hK K
  (try simp only [Act.put, List.getElem_toArray, List.getElem_cons_succ, List.getElem_cons_zero, List.setIfInBounds_toArray, List.set_cons_zero, List.set_cons_succ])
  refine wpAnyF_done (by kernel_rfl) ?_
  refine thenF_named ?_
  intro W5 hW5
  have hwW : w.heap.size < W.heap.size := by have := HX0.out.1; omega
  have S5 : Blk W5 W.heap.size [.int .i64 mf, .int .i64 mat, .slice ta mloc.length tc, .slice ra mstk.length rc] ∧ Blk W5 w.heap.size [.int .i64 0, .int .i64 0, .slice none 0 0, .slice none 0 0] ∧ w4.grownBy W5 (some W.heap.size) := by
    rw [hW5]
    exact ⟨blk_set (blk_set HX4.out 2 _) 3 _, blk_other (blk_other HX04.out (by show W.heap.size ≠ w.heap.size; omega) _) (by show W.heap.size ≠ w.heap.size; omega) _, gb_set (gb_set (gb_refl _ (some W.heap.size)) _ _ _) _ _ _⟩
  have HS5 := Lib.hid S5
  obtain ⟨z0, z1, z2, z3, zf⟩ := blk4 S5.2.1
  have zz := S5.2.1.1
  clear hW5 x0 x1 x2 x3 xf xz
  obtain ⟨x0, x1, x2, x3, xf⟩ := blk4 S5.1
  have xz := S5.1.1
  clear S5
  go_wp2_with fail
  refine post_named ?_
  intro w9 hw9
  have g9 : W5.grownBy w9 (some w.heap.size) ∧ Blk w9 w.heap.size [.int .i64 mf, .int .i64 mat, .slice ta mloc.length tc, .slice ra mstk.length rc] := by
    subst hw9
    exact ⟨gb_set (gb_set (gb_set (gb_set (gb_refl _ (some w.heap.size)) _ _ _) _ _ _) _ _ _) _ _ _, blk_set (blk_set (blk_set (blk_set HS5.out.2.1 0 (.int .i64 mf)) 1 (.int .i64 mat)) 2 (.slice ta mloc.length tc)) 3 (.slice ra mstk.length rc)⟩
  clear hw9
  obtain ⟨g9, b9⟩ := g9
  obtain ⟨u0, u1, u2, u3, _⟩ := blk4 b9
  have hWs : W.heap.size ≤ w4.heap.size := by have := HX4.out.1; omega
  have k5 : ∀ (a : Option Addr) (n c : Nat) (M : List ValM) (wb : World), Below W2.heap.size W2 w4 → OwnR valE VALT w4 wb.heap.size (.slice a n c) M → W.heap.size < wb.heap.size → ReadR valE w9 (.slice a n c) M := fun a n c M wb hb ho hlt => by
    have z1 := readR_grown (ownR_read ho) HS5.out.2.2 (Or.inr (fun e => by have := (ownR_lt ho _ e).1; omega))
    have ho2 := (ownR_lt ho)
    exact readR_grown z1 g9 (Or.inr (fun e => by have := (ho2 _ e).1; omega))
  have hX2 := HX2.out.1
  refine bodyPost_ret (v := .agg #[.int .i64 mf, .int .i64 mat, .slice ta mloc.length tc, .slice ra mstk.length rc]) (by simp [results, Try.results26, go_sem, u0, u1, u2, u3]) rfl ⟨ta, tc, ra, rc, rfl, k5 _ _ _ _ W2 HB4.out HO34.out hX2, k5 _ _ _ _ w3 HB4.out HO4.out (by have := HB3.out.size; omega), ?_⟩
  exact b_grown (b_grown (b_call HB2.out HB4.out) HS5.out.2.2 (by omega)) g9 (Nat.le_refl _)
end Go.Proofs.Ytdmidnmciaediaa
