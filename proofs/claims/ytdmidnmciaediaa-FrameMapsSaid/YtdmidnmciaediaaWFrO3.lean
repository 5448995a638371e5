/- Layer 28: the document's Right. Conditions: what is asked reads as lists. -/
import Derived.Test.YtdmidnmciaediaaWFrO2
namespace Go.Proofs.Ytdmidnmciaediaa
open Go.RowKit
set_option linter.unusedVariables false
set_option linter.unusedSimpArgs false
attribute [local go_sem] over_cell over_frozen
variable {w0 w w' : World} {r s : Nat} {p q : PrV} {P : PrM} {L : List FrM} {lv : Sl} {v0 : World}
theorem right_take {Fx : FxM} {k : Nat} (hk : k < L.length) (h : rightM P Fx (L.take k) = true) (h1 : rightOne P Fx L[k] = true) : rightM P Fx (L.take (k + 1)) = true := by
  unfold rightM at *
  rw [List.take_succ_eq_append_getElem hk, List.all_append, h]
  simp [h1]
theorem right_not {Fx : FxM} {k : Nat} (hk : k < L.length) (h1 : rightOne P Fx L[k] = false) : rightM P Fx L = false := by
  unfold rightM
  rw [List.all_eq_false]
  exact ⟨L[k], List.getElem_mem hk, by rw [h1]; decide⟩
theorem kinds_step {stk : List ValM} {KF : List Int} {j : Nat} (h1 : j < stk.length) (h2 : j < KF.length) (h : kindsV (stk.take j) = KF.take j) (he : stk[j].k = KF[j]) : kindsV (stk.take (j + 1)) = KF.take (j + 1) := by
  rw [List.take_succ_eq_append_getElem h1, List.take_succ_eq_append_getElem h2, ← h, ← he]
  unfold kindsV
  rw [List.map_append]; rfl
theorem kinds_not {stk : List ValM} {KF : List Int} {j : Nat} (h1 : j < stk.length) (h2 : j < KF.length) (he : stk[j].k ≠ KF[j]) : kindsV stk ≠ KF.take stk.length := fun h => he (by
  have e : (kindsV stk)[j]? = some stk[j].k := by unfold kindsV; rw [List.getElem?_map, List.getElem?_eq_getElem h1]; rfl
  rw [h, List.getElem?_take, if_pos h1, List.getElem?_eq_getElem h2] at e
  injection e with e
  exact e.symm)
set_option maxRecDepth 100000 in
set_option maxHeartbeats 16000000 in
theorem dright_any (h : DocF v0 w r q lv L) (hP : ReadP w q P) (hS : SmallP P) (hL : LInv P L) (va : Option Addr) (vn vc : Nat) (Fx : FxM) (hf : FacR w (.slice va vn vc) Fx) : Calls Try.prog 34 #[rp r, .slice va vn vc] w fun e w' => e = .returned (.bool (rightM P Fx L)) ∧ Below w.heap.size w w' := by
  have HP := Lib.hid hP; have HSM := Lib.hid hS; have HLI := Lib.hid hL
  have HFX := Lib.hid hf
  have HMT := Lib.hid (fun w' (hb : Below w.heap.size w w') f a => rmet_any q P (.slice va vn vc) Fx f a w' (readP_below hP hb) (facR_below hf hb))
  obtain ⟨vfa, vfc, evf, vf2, vf3⟩ := facR_form hf
  injection evf with evf1 evf2 evf3
  subst evf1 evf2 evf3
  obtain ⟨f1, f2, f3⟩ := fn_len hP
  obtain ⟨n1, n2, n3⟩ := doc_len h
  obtain ⟨V, hv1, hv2, hv3, hv4⟩ := h.row
  obtain ⟨qu, ⟨qa, qn, qc⟩, qm, ⟨ra, rn, rc⟩⟩ := q
  obtain ⟨la, ln, lc⟩ := lv
  simp only at n1 n2 n3 f1 f2 f3 hv1
  subst n1 f1
  have HV1 := Lib.hid hv1; have HV3 := Lib.hid hv3; have HV4 := Lib.hid hv4
  have HRC : Hid (∀ w', Below w.heap.size w w' → ((w'.cell? ⟨r, 0, none⟩ = some (.bool qu) ∧ w'.cell? ⟨r, 1, none⟩ = some (.slice qa qn qc)) ∧ (w'.cell? ⟨r, 2, none⟩ = some (.int .i64 qm) ∧ w'.cell? ⟨r, 3, none⟩ = some (.slice ra P.fs.length rc))) ∧ w'.cell? ⟨r, 4, none⟩ = some (.slice la L.length lc)) := Lib.hid (fun w' hb => by
    have hx := (blk_below h.hd hb).2.1
    exact ⟨⟨⟨by simpa using hx 0 (by simp), by simpa using hx 1 (by simp)⟩, by simpa using hx 2 (by simp), by simpa using hx 3 (by simp)⟩, by simpa using hx 4 (by simp)⟩)
  have bz := h.hd.1
  have hn24 := hL.n
  have r4 := (HRC.out w (Below.refl _ _)).2
  unfold rp at *
  clear h hP hS hL hv1 hv2 hv3 hv4 hf
  go_enter Try.func34, Try.ntmps34
  go_wp2_with fail
  go_loopw [14] (fun i wr => ∃ k : Nat, k ≤ L.length ∧ i = .int .i64 k ∧ Hid (rightM P Fx (L.take k) = true) ∧ Hid (Below w.heap.size w wr)) (fun i _ => L.length - (intOf i).toNat)
  case atStart => exact ⟨0, Nat.zero_le _, rfl, Lib.hid rfl, Lib.hid (Below.refl _ _)⟩
  case round =>
    clear r4
    obtain ⟨W1, hW1⟩ : ∃ x, x = wr := ⟨_, rfl⟩
    subst hW1
    obtain ⟨k, hk, rfl, HEQ, HB⟩ := hrel
    have k0 : (0 : Int) ≤ k := by omega
    by_cases hlt : k < L.length
    · have k1 : (k : Int) < L.length := by omega
      have k9 : (k : Int) < 9223372036854775807 := by omega
      have kc : (k : Int) < lc := by omega
      have HT : Hid (rightOne P Fx L[k] = true → rightM P Fx (L.take (k + 1)) = true) := Lib.hid (right_take hlt HEQ.out)
      have HN : Hid (rightOne P Fx L[k] = false → rightM P Fx L = false) := Lib.hid (right_not hlt)
      have hfi := HLI.out.m L[k] (List.getElem_mem hlt)
      obtain ⟨bl, off, cp, e1, r1, r2, hbl, r4⟩ := readR_pos (readR_below HV1.out HB.out) (by have := HV3.out; omega)
      injection e1 with e1 e1b e3
      subst e1
      have hjv : k < V.length := by have := HV3.out; omega
      have d0 : W1.cell? ⟨bl, off + k * 4, none⟩ = some (.int .i64 V[k].f) := r4 k hjv 0 (by decide)
      have d1 : W1.cell? ⟨bl, off + k * 4 + 1, none⟩ = some (.int .i64 V[k].at_) := r4 k hjv 1 (by decide)
      have d2 : W1.cell? ⟨bl, off + k * 4 + 2, none⟩ = some (.slice V[k].l.a V[k].l.n V[k].l.c) := r4 k hjv 2 (by decide)
      have d3 : W1.cell? ⟨bl, off + k * 4 + 3, none⟩ = some (.slice V[k].s.a V[k].s.n V[k].s.c) := r4 k hjv 3 (by decide)
      obtain ⟨gf9, ga9, gl9, glt9, gs9, gst9⟩ := HV4.out k hjv hlt
      generalize V[k] = v9 at *
      obtain ⟨m9, hmm9⟩ : ∃ m9, m9 = L[k] := ⟨_, rfl⟩
      rw [← hmm9] at HT HN hfi gf9 ga9 gl9 gs9
      clear hmm9 glt9 gst9 r1 r2 r4 e1b e3 hjv
      obtain ⟨vf, va9, ⟨xa, xn, xc⟩, ⟨ya, yn, yc⟩⟩ := v9
      obtain ⟨mf, mat, loc, stk⟩ := m9
      simp only at d0 d1 d2 d3 gf9 ga9 gl9 gs9
      obtain ⟨i, hi⟩ : ∃ i : Nat, mf = i := ⟨mf.toNat, by have := hfi.f0; simp only at this; omega⟩
      subst gf9 hi
      replace ga9 := ga9.symm
      subst ga9
      have hiP : i < P.fs.length := by have := hfi.f1; simp only at this; omega
      have g7 : xn = loc.length := by
        obtain ⟨_, _, e7, _⟩ := readR_len gl9
        injection e7
      have g8 : yn = stk.length := by
        obtain ⟨_, _, e7, _⟩ := readR_len gs9
        injection e7
      subst g7 g8
      have lyN : stk.length ≤ yc := by
        obtain ⟨_, _, ex, hx2, _⟩ := readR_len gs9
        injection ex with _ _ ex
        rw [ex]; exact hx2
      have ly : (stk.length : Int) ≤ yc := Int.ofNat_le.2 lyN
      have hms : stk.length ≤ 16 := hfi.s
      have HA2 := Lib.hid gs9; have HMS := Lib.hid hms
      have i0 : (0 : Int) ≤ i := by omega
      have i1 : (i : Int) < P.fs.length := by omega
      have ic : (i : Int) < rc := by omega
      clear gl9 gs9 hfi
      go_upto_region 4 with fail
      refine wp_named ?_
      intro W2 hW2
      have HX9 : Hid (Blk W2 W1.heap.size [.int .i64 i, .int .i64 mat, .slice xa loc.length xc, .slice ya stk.length yc]) := Lib.hid (by rw [hW2]; exact blk_new _ _ _)
      have HB12 : Hid (Below W1.heap.size W1 W2) := Lib.hid (by rw [hW2]; exact b_alloc (Below.refl _ _) _)
      clear hW2 d0 d1 d2 d3 hbl
      have HB2 := Lib.hid (b_call HB.out HB12.out)
      obtain ⟨tm, htm⟩ : ∃ tm, tm = metB P Fx i mat := ⟨_, rfl⟩
      have HTM := Lib.hid htm
      clear htm
      have HMC := Lib.hid (HMT.out W2.drew (b_drew HB2.out) i mat)
      rw [← HTM.out] at HMC
      cases tm with
      | false =>
        have HRF : Hid (rightM P Fx L = false) := Lib.hid (HN.out (by unfold rightOne; rw [show metB P Fx ((⟨i, mat, loc, stk⟩ : FrM).f) ((⟨i, mat, loc, stk⟩ : FrM).at_) = false from HTM.out.symm]; rfl))
        have HS5 : Hid (∀ w', Below W2.heap.size W2 w' → ((w'.cell? ⟨r, 0, none⟩ = some (.bool qu) ∧ w'.cell? ⟨r, 1, none⟩ = some (.slice qa qn qc)) ∧ (w'.cell? ⟨r, 2, none⟩ = some (.int .i64 qm) ∧ w'.cell? ⟨r, 3, none⟩ = some (.slice ra P.fs.length rc))) ∧ (w'.cell? ⟨W1.heap.size, 0, none⟩ = some (.int .i64 i) ∧ w'.cell? ⟨W1.heap.size, 1, none⟩ = some (.int .i64 mat))) := Lib.hid (fun w' hb => by
          obtain ⟨x0, x1, _⟩ := blk4 (blk_below HX9.out hb)
          exact ⟨(HRC.out w' (b_call HB2.out hb)).1, x0, x1⟩)
        refine wp_region_held_drew (S := fun w' => ((w'.cell? ⟨r, 0, none⟩ = some (.bool qu) ∧ w'.cell? ⟨r, 1, none⟩ = some (.slice qa qn qc)) ∧ (w'.cell? ⟨r, 2, none⟩ = some (.int .i64 qm) ∧ w'.cell? ⟨r, 3, none⟩ = some (.slice ra P.fs.length rc))) ∧ (w'.cell? ⟨W1.heap.size, 0, none⟩ = some (.int .i64 i) ∧ w'.cell? ⟨W1.heap.size, 1, none⟩ = some (.int .i64 mat))) (by kernel_rfl) (HS5.out _ (b_drew (Below.refl _ _))) (fun hHeld => ?_)
        refine atI 0 ?_
        iterate 9 (refine takeN (v := ?_) rfl (by rfl) ?_ hHeld ?_; rotate_left; (focus (intro w hSw; (try dsimp only at hSw); go_simp; try (with_reducible rfl))); (try simp only [Act.put, Nat.reduceAdd, List.getElem_toArray, List.getElem_cons_succ, List.getElem_cons_zero, List.setIfInBounds_toArray, List.set_cons_zero, List.set_cons_succ]))
        refine atIo ?_
        refine wpAnyH_ready (rs := [9]) (by kernel_rfl) (by simp) (AllReadyH.cons rfl (fun K hK => ?_) AllReadyH.nil)
        go_simp
        refine HMC.out.mono ?_
        rintro e w3 ⟨rfl, hb3⟩
        have HB23 : Hid (Below W2.heap.size W2 w3) := Lib.hid (b_call (b_drew (Below.refl _ _)) hb3)
        clear hb3 HMC
        refine hK.out _ _ (HS5.out _ HB23.out) (fun hHeld => ?_)
        clear hK K
        (try simp only [Act.put, List.getElem_toArray, List.getElem_cons_succ, List.getElem_cons_zero, List.setIfInBounds_toArray, List.set_cons_zero, List.set_cons_succ])
        refine atI 10 ?_
        iterate 2 (refine takeN (v := ?_) rfl (by rfl) ?_ hHeld ?_; rotate_left; (focus (intro w hSw; (try dsimp only at hSw); go_simp; try (with_reducible rfl))); (try simp only [Act.put, Nat.reduceAdd, List.getElem_toArray, List.getElem_cons_succ, List.getElem_cons_zero, List.setIfInBounds_toArray, List.set_cons_zero, List.set_cons_succ]))
        refine atIo ?_
        (refine wpAnyH_take (i := 12) (v := _) rfl (by kernel_rfl) (by kernel_rfl) (by kernel_rfl) (fun _ _ _ h => h) (Or.inr ⟨by rfl, rfl⟩) hHeld ?_; (try simp only [Act.put, List.getElem_toArray, List.getElem_cons_succ, List.getElem_cons_zero, List.setIfInBounds_toArray, List.set_cons_zero, List.set_cons_succ]))
        (refine wpAnyH_take (i := 13) (v := _) rfl (by kernel_rfl) (by kernel_rfl) (by kernel_rfl) (fun _ _ _ h => h) (Or.inr ⟨by rfl, rfl⟩) hHeld ?_; (try simp only [Act.put, List.getElem_toArray, List.getElem_cons_succ, List.getElem_cons_zero, List.setIfInBounds_toArray, List.set_cons_zero, List.set_cons_succ]))
        (refine wpAnyH_take (i := 14) (v := _) rfl (by kernel_rfl) (by kernel_rfl) (by kernel_rfl) (fun _ _ _ h => h) (Or.inr ⟨by rfl, rfl⟩) hHeld ?_; (try simp only [Act.put, List.getElem_toArray, List.getElem_cons_succ, List.getElem_cons_zero, List.setIfInBounds_toArray, List.set_cons_zero, List.set_cons_succ]))
        (refine wpAnyH_take (i := 15) (v := _) rfl (by kernel_rfl) (by kernel_rfl) (by kernel_rfl) (fun _ _ _ h => h) (Or.inr ⟨by rfl, rfl⟩) hHeld ?_; (try simp only [Act.put, List.getElem_toArray, List.getElem_cons_succ, List.getElem_cons_zero, List.setIfInBounds_toArray, List.set_cons_zero, List.set_cons_succ]))
        (refine wpAnyH_take (i := 16) (v := _) rfl (by kernel_rfl) (by kernel_rfl) (by kernel_rfl) (fun _ _ _ h => h) (Or.inr ⟨by rfl, rfl⟩) hHeld ?_; (try simp only [Act.put, List.getElem_toArray, List.getElem_cons_succ, List.getElem_cons_zero, List.setIfInBounds_toArray, List.set_cons_zero, List.set_cons_succ]))
        (refine wpAnyH_take (i := 17) (v := _) rfl (by kernel_rfl) (by kernel_rfl) (by kernel_rfl) (fun _ _ _ h => h) (Or.inr ⟨by rfl, rfl⟩) hHeld ?_; (try simp only [Act.put, List.getElem_toArray, List.getElem_cons_succ, List.getElem_cons_zero, List.setIfInBounds_toArray, List.set_cons_zero, List.set_cons_succ]))
        (refine wpAnyH_take (i := 18) (v := _) rfl (by kernel_rfl) (by kernel_rfl) (by kernel_rfl) (fun _ _ _ h => h) (Or.inr ⟨by rfl, rfl⟩) hHeld ?_; (try simp only [Act.put, List.getElem_toArray, List.getElem_cons_succ, List.getElem_cons_zero, List.setIfInBounds_toArray, List.set_cons_zero, List.set_cons_succ]))
        (refine wpAnyH_take (i := 19) (v := _) rfl (by kernel_rfl) (by kernel_rfl) (by kernel_rfl) (fun _ _ _ h => h) (Or.inr ⟨by rfl, rfl⟩) hHeld ?_; (try simp only [Act.put, List.getElem_toArray, List.getElem_cons_succ, List.getElem_cons_zero, List.setIfInBounds_toArray, List.set_cons_zero, List.set_cons_succ]))
        (refine wpAnyH_take (i := 20) (v := _) rfl (by kernel_rfl) (by kernel_rfl) (by kernel_rfl) (fun _ _ _ h => h) (Or.inr ⟨by rfl, rfl⟩) hHeld ?_; (try simp only [Act.put, List.getElem_toArray, List.getElem_cons_succ, List.getElem_cons_zero, List.setIfInBounds_toArray, List.set_cons_zero, List.set_cons_succ]))
        (refine wpAnyH_take (i := 21) (v := _) rfl (by kernel_rfl) (by kernel_rfl) (by kernel_rfl) (fun _ _ _ h => h) (Or.inr ⟨by rfl, rfl⟩) hHeld ?_; (try simp only [Act.put, List.getElem_toArray, List.getElem_cons_succ, List.getElem_cons_zero, List.setIfInBounds_toArray, List.set_cons_zero, List.set_cons_succ]))
        (refine wpAnyH_take (i := 22) (v := _) rfl (by kernel_rfl) (by kernel_rfl) (by kernel_rfl) (fun _ _ _ h => h) (Or.inr ⟨by rfl, rfl⟩) hHeld ?_; (try simp only [Act.put, List.getElem_toArray, List.getElem_cons_succ, List.getElem_cons_zero, List.setIfInBounds_toArray, List.set_cons_zero, List.set_cons_succ]))
        (refine wpAnyH_take (i := 23) (v := _) rfl (by kernel_rfl) (by kernel_rfl) (by kernel_rfl) (fun _ _ _ h => h) (Or.inr ⟨by rfl, rfl⟩) hHeld ?_; (try simp only [Act.put, List.getElem_toArray, List.getElem_cons_succ, List.getElem_cons_zero, List.setIfInBounds_toArray, List.set_cons_zero, List.set_cons_succ]))
        (refine wpAnyH_take (i := 24) (v := _) rfl (by kernel_rfl) (by kernel_rfl) (by kernel_rfl) (fun _ _ _ h => h) (Or.inr ⟨by rfl, rfl⟩) hHeld ?_; (try simp only [Act.put, List.getElem_toArray, List.getElem_cons_succ, List.getElem_cons_zero, List.setIfInBounds_toArray, List.set_cons_zero, List.set_cons_succ]))
        (refine wpAnyH_take (i := 25) (v := _) rfl (by kernel_rfl) (by kernel_rfl) (by kernel_rfl) (fun _ _ _ h => h) (Or.inr ⟨by rfl, rfl⟩) hHeld ?_; (try simp only [Act.put, List.getElem_toArray, List.getElem_cons_succ, List.getElem_cons_zero, List.setIfInBounds_toArray, List.set_cons_zero, List.set_cons_succ]))
        (refine wpAnyH_take (i := 26) (v := _) rfl (by kernel_rfl) (by kernel_rfl) (by kernel_rfl) (fun _ _ _ h => h) (Or.inr ⟨by rfl, rfl⟩) hHeld ?_; (try simp only [Act.put, List.getElem_toArray, List.getElem_cons_succ, List.getElem_cons_zero, List.setIfInBounds_toArray, List.set_cons_zero, List.set_cons_succ]))
        (refine wpAnyH_take (i := 27) (v := ?_) rfl (by kernel_rfl) (by kernel_rfl) (by kernel_rfl) (fun _ _ _ h => h) (Or.inl ⟨by rfl, ?_⟩) hHeld ?_; rotate_left; (focus (intro w hSw; (try dsimp only at hSw); go_simp; try (with_reducible rfl))); (try simp only [Act.put, List.getElem_toArray, List.getElem_cons_succ, List.getElem_cons_zero, List.setIfInBounds_toArray, List.set_cons_zero, List.set_cons_succ]))
        refine wpAnyH_done (by kernel_rfl) ?_ _
        go_wp2_with fail
        go_ret
        exact ⟨by rw [HRF.out]; rfl, b_call HB2.out HB23.out⟩
      | true =>
        obtain ⟨i', j8, ei, ej, _, hx8, _, hj8⟩ := met_true HTM.out.symm
        have ei' : i' = i := by omega
        subst ei' ej
        rw [getD_at hx8] at hj8
        obtain ⟨ub, uo, us, eu, hub, hcu, hFL⟩ := facR_at HFX.out hx8
        obtain ⟨tb, tof, ut, et, htb, htc0, htc, hKF⟩ := facL_at hFL hj8
        obtain ⟨u1, u2, u3⟩ := facL_form hFL
        obtain ⟨uu0, un0, uc0⟩ := us
        obtain ⟨ta0, tn0, tc0⟩ := ut
        simp only at u1 u2 u3 et hcu htc
        subst u1 et
        subst eu
        obtain ⟨kf1, kf2, kf3⟩ := int_len hKF
        simp only at kf1 kf2 kf3
        subst kf1
        have jx0 : (0 : Int) ≤ j8 := by omega
        have jx1 : (j8 : Int) < Fx[i'].length := by omega
        have jx2 : (j8 : Int) < uc0 := by omega
        have jx3 : (i' : Int) < Fx.length := by omega
        have jx4 : (i' : Int) < vc := by omega
        have HONE : Hid (rightOne P Fx ⟨i', j8, loc, stk⟩ = (decide (stk.length ≤ (Fx[i'][j8]).2.length) && decide (kindsV stk = (Fx[i'][j8]).2.take stk.length))) := Lib.hid (by
          unfold rightOne factM
          rw [show metB P Fx ((⟨i', j8, loc, stk⟩ : FrM).f) ((⟨i', j8, loc, stk⟩ : FrM).at_) = true from HTM.out.symm]
          show (true && (decide (stk.length ≤ ((Fx.getD (i' : Int).toNat []).getD (j8 : Int).toNat (false, [])).2.length) && decide (kindsV stk = ((Fx.getD (i' : Int).toNat []).getD (j8 : Int).toNat (false, [])).2.take stk.length))) = _
          rw [Int.toNat_natCast, Int.toNat_natCast, getD_at hx8, getD_at hj8, Bool.true_and])
        obtain ⟨NF, hNF⟩ : ∃ NF, NF = Fx[i'].length := ⟨_, rfl⟩
        obtain ⟨KF, hKFE⟩ : ∃ KF, KF = (Fx[i'][j8]).2 := ⟨_, rfl⟩
        rw [← hKFE] at HONE htc hKF kf2
        rw [← hNF] at hcu jx1
        have HKF := Lib.hid hKF
        have HFC : Hid (∀ w', Below w.heap.size w w' → w'.cell? ⟨ub, uo + i', none⟩ = some (.slice (some ⟨tb, tof, none⟩) NF uc0) ∧ w'.cell? ⟨tb, tof + j8 * 2 + 1, none⟩ = some (.slice ta0 KF.length tc0)) := Lib.hid (fun w' hb => by
          have hc := (bcell hb).1
          exact ⟨(hc _ _ hub).trans hcu, (hc _ _ htb).trans htc⟩)
        clear hNF hKFE hcu htc htc0 hub htb hFL hKF u2 u3 hx8 hj8 ei HMT
        obtain ⟨i, hii⟩ : ∃ i, i = i' := ⟨_, rfl⟩
        subst hii
        have HS5 : Hid (∀ w', Below W2.heap.size W2 w' → ((((w'.cell? ⟨r, 0, none⟩ = some (.bool qu) ∧ w'.cell? ⟨r, 1, none⟩ = some (.slice qa qn qc)) ∧ (w'.cell? ⟨r, 2, none⟩ = some (.int .i64 qm) ∧ w'.cell? ⟨r, 3, none⟩ = some (.slice ra P.fs.length rc))) ∧ (w'.cell? ⟨W1.heap.size, 0, none⟩ = some (.int .i64 i) ∧ w'.cell? ⟨W1.heap.size, 1, none⟩ = some (.int .i64 j8))) ∧ w'.cell? ⟨W1.heap.size, 3, none⟩ = some (.slice ya stk.length yc)) ∧ (w'.cell? ⟨ub, uo + i, none⟩ = some (.slice (some ⟨tb, tof, none⟩) NF uc0) ∧ w'.cell? ⟨tb, tof + j8 * 2 + 1, none⟩ = some (.slice ta0 KF.length tc0))) := Lib.hid (fun w' hb => by
          obtain ⟨x0, x1, _, x3, _⟩ := blk4 (blk_below HX9.out hb)
          exact ⟨⟨⟨(HRC.out w' (b_call HB2.out hb)).1, x0, x1⟩, x3⟩, HFC.out w' (b_call HB2.out hb)⟩)
        refine wp_region_held_drew (S := fun w' => ((((w'.cell? ⟨r, 0, none⟩ = some (.bool qu) ∧ w'.cell? ⟨r, 1, none⟩ = some (.slice qa qn qc)) ∧ (w'.cell? ⟨r, 2, none⟩ = some (.int .i64 qm) ∧ w'.cell? ⟨r, 3, none⟩ = some (.slice ra P.fs.length rc))) ∧ (w'.cell? ⟨W1.heap.size, 0, none⟩ = some (.int .i64 i) ∧ w'.cell? ⟨W1.heap.size, 1, none⟩ = some (.int .i64 j8))) ∧ w'.cell? ⟨W1.heap.size, 3, none⟩ = some (.slice ya stk.length yc)) ∧ (w'.cell? ⟨ub, uo + i, none⟩ = some (.slice (some ⟨tb, tof, none⟩) NF uc0) ∧ w'.cell? ⟨tb, tof + j8 * 2 + 1, none⟩ = some (.slice ta0 KF.length tc0))) (by kernel_rfl) (HS5.out _ (b_drew (Below.refl _ _))) (fun hHeld => ?_)
        refine atI 0 ?_
        iterate 9 (refine takeN (v := ?_) rfl (by rfl) ?_ hHeld ?_; rotate_left; (focus (intro w hSw; (try dsimp only at hSw); go_simp; try (with_reducible rfl))); (try simp only [Act.put, Nat.reduceAdd, List.getElem_toArray, List.getElem_cons_succ, List.getElem_cons_zero, List.setIfInBounds_toArray, List.set_cons_zero, List.set_cons_succ]))
        refine atIo ?_
        refine wpAnyH_ready (rs := [9]) (by kernel_rfl) (by simp) (AllReadyH.cons rfl (fun K hK => ?_) AllReadyH.nil)
        go_simp
        refine HMC.out.mono ?_
        rintro e w3 ⟨rfl, hb3⟩
        have HB23 : Hid (Below W2.heap.size W2 w3) := Lib.hid (b_call (b_drew (Below.refl _ _)) hb3)
        clear hb3 HMC
        refine hK.out _ _ (HS5.out _ HB23.out) (fun hHeld => ?_)
        clear hK K
        (try simp only [Act.put, List.getElem_toArray, List.getElem_cons_succ, List.getElem_cons_zero, List.setIfInBounds_toArray, List.set_cons_zero, List.set_cons_succ])
        by_cases hsl : stk.length ≤ KF.length
        · have hsl1 : ¬ ((stk.length : Int) > KF.length) := by omega
          refine atI 10 ?_
          iterate 18 (refine takeN (v := ?_) rfl (by rfl) ?_ hHeld ?_; rotate_left; (focus (intro w hSw; (try dsimp only at hSw); go_simp; try (with_reducible rfl))); (try simp only [Act.put, Nat.reduceAdd, List.getElem_toArray, List.getElem_cons_succ, List.getElem_cons_zero, List.setIfInBounds_toArray, List.set_cons_zero, List.set_cons_succ]))
          refine atIo ?_
          refine wpAnyH_done (by kernel_rfl) ?_ _
          have HB13 := Lib.hid (b_call HB12.out HB23.out)
          have HX93 := Lib.hid (blk_below HX9.out HB23.out)
          obtain ⟨W3, hW3⟩ : ∃ x, x = w3 := ⟨_, rfl⟩
          subst hW3
          have HB3 := Lib.hid (b_call HB.out HB13.out)
          obtain ⟨x0, x1, x2, x3, xf⟩ := blk4 HX93.out
          have xz := HX93.out.1
          go_wp2_with fail
          clear x0 x1 x2 x3 xf xz
          go_loopw [49] (fun iv wr => ∃ j : Nat, j ≤ stk.length ∧ iv = .int .i64 j ∧ Hid (kindsV (stk.take j) = KF.take j) ∧ Hid (Below W3.heap.size W3 wr)) (fun iv _ => stk.length - (intOf iv).toNat)
          case atStart => exact ⟨0, Nat.zero_le _, rfl, Lib.hid rfl, Lib.hid (Below.refl _ _)⟩
          case round =>
            obtain ⟨W6, hW6⟩ : ∃ x, x = wr := ⟨_, rfl⟩
            subst hW6
            obtain ⟨j, hj, rfl, HE2, HB36⟩ := hrel
            have j0 : (0 : Int) ≤ j := by omega
            have HB6 := Lib.hid (b_call HB3.out HB36.out)
            by_cases hjl : j < stk.length
            · have j1 : (j : Int) < stk.length := by omega
              have jc : (j : Int) < yc := by omega
              have j9 : (j : Int) < 9223372036854775807 := by have := HMS.out; omega
              have hjn : j < KF.length := by omega
              have jn1 : (j : Int) < KF.length := by omega
              have jn2 : (j : Int) < tc0 := by omega
              obtain ⟨bv, ov, cv, f1, f2, f3, hbv, f4⟩ := valR_pos (readR_below HA2.out HB6.out) (by omega)
              injection f1 with f1 _ f5
              subst f1
              obtain ⟨y0, y1⟩ := f4 j hjl
              obtain ⟨bk, ok, ck, h1, h2, h3, hbk, h4⟩ := readI_pos HKF.out (by omega)
              injection h1 with h1 _ h5
              subst h1
              have hkc := h4 j hjn
              rw [List.getD_eq_getElem?_getD, List.getElem?_eq_getElem hjn, Option.getD_some] at hkc
              have HKC := Lib.hid (fun w' (hb : Below w.heap.size w w') => ((bcell hb).1 _ _ hbk).trans hkc)
              have HST : Hid (stk[j].k = KF[j] → kindsV (stk.take (j + 1)) = KF.take (j + 1)) := Lib.hid (kinds_step hjl hjn HE2.out)
              have HNT : Hid (stk[j].k ≠ KF[j] → kindsV stk ≠ KF.take stk.length) := Lib.hid (kinds_not hjl hjn)
              generalize KF[j] = kj at *
              generalize stk[j] = x at *
              obtain ⟨xk, xb⟩ := x
              simp only at y0 y1 HST HNT
              clear f2 f3 f4 f5 h2 h3 h4 h5 hkc hbk
              go_upto_region 9 with fail
              refine wp_named ?_
              intro W7 hW7
              have S7 : Blk W7 W6.heap.size [.int .i64 xk, .int .u64 xb] ∧ Below W6.heap.size W6 W7 := by
                rw [hW7]; exact ⟨blk_new _ _ _, b_alloc (Below.refl _ _) _⟩
              have HX7 := Lib.hid S7.1
              have HB37 := Lib.hid (b_call HB36.out S7.2)
              clear hW7 S7 y0 y1 hbv
              have HX97 := Lib.hid (blk_below HX93.out HB37.out)
              have HB7 := Lib.hid (b_call HB3.out HB37.out)
              have HS9 : Hid (∀ w', Below W7.heap.size W7 w' → ((w'.cell? ⟨W6.heap.size, 0, none⟩ = some (.int .i64 xk) ∧ (w'.cell? ⟨W1.heap.size, 0, none⟩ = some (.int .i64 i) ∧ w'.cell? ⟨W1.heap.size, 1, none⟩ = some (.int .i64 j8))) ∧ (w'.cell? ⟨ub, uo + i, none⟩ = some (.slice (some ⟨tb, tof, none⟩) NF uc0) ∧ w'.cell? ⟨tb, tof + j8 * 2 + 1, none⟩ = some (.slice (some ⟨bk, ok, none⟩) KF.length tc0))) ∧ w'.cell? ⟨bk, ok + j, none⟩ = some (.int .i64 kj)) := Lib.hid (fun w' hb => by
                obtain ⟨x0, x1, _⟩ := blk4 (blk_below HX97.out hb)
                obtain ⟨u0, _⟩ := blk2 (blk_below HX7.out hb)
                have hb2 := b_call HB7.out hb
                exact ⟨⟨⟨u0, x0, x1⟩, HFC.out w' hb2⟩, HKC.out w' hb2⟩)
              refine wp_region_held_drew (S := fun w' => ((w'.cell? ⟨W6.heap.size, 0, none⟩ = some (.int .i64 xk) ∧ (w'.cell? ⟨W1.heap.size, 0, none⟩ = some (.int .i64 i) ∧ w'.cell? ⟨W1.heap.size, 1, none⟩ = some (.int .i64 j8))) ∧ (w'.cell? ⟨ub, uo + i, none⟩ = some (.slice (some ⟨tb, tof, none⟩) NF uc0) ∧ w'.cell? ⟨tb, tof + j8 * 2 + 1, none⟩ = some (.slice (some ⟨bk, ok, none⟩) KF.length tc0))) ∧ w'.cell? ⟨bk, ok + j, none⟩ = some (.int .i64 kj)) (by kernel_rfl) (HS9.out _ (b_drew (Below.refl _ _))) (fun hHeld => ?_)
              by_cases hxe : xk = kj
              · have hne : (xk != kj) = false := by simp [hxe]
                have HEX := Lib.hid hxe
                clear hxe
                refine atI 0 ?_
                iterate 16 (refine takeN (v := ?_) rfl (by rfl) ?_ hHeld ?_; rotate_left; (focus (intro w hSw; (try dsimp only at hSw); go_simp; try (with_reducible rfl))); (try simp only [Act.put, Nat.reduceAdd, List.getElem_toArray, List.getElem_cons_succ, List.getElem_cons_zero, List.setIfInBounds_toArray, List.set_cons_zero, List.set_cons_succ]))
                refine atIo ?_
                refine wpAnyH_done (by kernel_rfl) ?_ _
                go_wp2_with fail
                go_roundw
                case rel => exact ⟨j + 1, by omega, by first | rfl | go_num, Lib.hid (HST.out HEX.out), Lib.hid (b_drew HB37.out)⟩
                case measure => simp [intOf]; omega
              · have hne : (xk != kj) = true := by simp [hxe]
                have HEX := Lib.hid hxe
                clear hxe
                have HRF : Hid (rightM P Fx L = false) := Lib.hid (HN.out (by rw [HONE.out, decide_eq_false (HNT.out HEX.out), Bool.and_false]))
                refine atI 0 ?_
                iterate 16 (refine takeN (v := ?_) rfl (by rfl) ?_ hHeld ?_; rotate_left; (focus (intro w hSw; (try dsimp only at hSw); go_simp; try (with_reducible rfl))); (try simp only [Act.put, Nat.reduceAdd, List.getElem_toArray, List.getElem_cons_succ, List.getElem_cons_zero, List.setIfInBounds_toArray, List.set_cons_zero, List.set_cons_succ]))
                refine atIo ?_
                refine wpAnyH_done (by kernel_rfl) ?_ _
                go_wp2_with fail
                go_ret
                exact ⟨by rw [HRF.out]; rfl, b_drew HB7.out⟩
            · have j1 : ¬ ((j : Int) < stk.length) := by omega
              have HRT : Hid (rightM P Fx (L.take (k + 1)) = true) := Lib.hid (HT.out (by
                have z := HE2.out
                rw [List.take_of_length_le (by omega), show j = stk.length by omega] at z
                rw [HONE.out, decide_eq_true hsl, decide_eq_true z]; rfl))
              go_wp2_with fail
              go_roundw
              case rel => exact ⟨k + 1, by omega, by first | rfl | go_num, HRT, HB6⟩
              case measure => simp [intOf]; omega
        · have hsl1 : (stk.length : Int) > KF.length := by omega
          have HRF : Hid (rightM P Fx L = false) := Lib.hid (HN.out (by rw [HONE.out, decide_eq_false hsl, Bool.false_and]))
          refine atI 10 ?_
          iterate 18 (refine takeN (v := ?_) rfl (by rfl) ?_ hHeld ?_; rotate_left; (focus (intro w hSw; (try dsimp only at hSw); go_simp; try (with_reducible rfl))); (try simp only [Act.put, Nat.reduceAdd, List.getElem_toArray, List.getElem_cons_succ, List.getElem_cons_zero, List.setIfInBounds_toArray, List.set_cons_zero, List.set_cons_succ]))
          refine atIo ?_
          refine wpAnyH_done (by kernel_rfl) ?_ _
          go_wp2_with fail
          go_ret
          exact ⟨by rw [HRF.out]; rfl, b_call HB2.out HB23.out⟩
    · have k1 : ¬ ((k : Int) < L.length) := by omega
      have HFI : Hid (rightM P Fx L = true) := Lib.hid (by have z := HEQ.out; rwa [List.take_of_length_le (by omega)] at z)
      go_wp2_with fail
      go_ret
      exact ⟨by rw [HFI.out]; rfl, HB.out⟩
end Go.Proofs.Ytdmidnmciaediaa
