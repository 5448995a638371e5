/- Layer 28: the document's Refs, by the maps. Conditions: what is asked reads as lists. -/
import Derived.Test.YtdmidnmciaediaaWFrO
import Derived.Test.YtdmidnmciaediaaWFrPm
namespace Go.Proofs.Ytdmidnmciaediaa
open Go.RowKit
set_option linter.unusedVariables false
set_option linter.unusedSimpArgs false
attribute [local go_sem] over_cell over_frozen
variable {w0 w w' : World} {r s : Nat} {p q : PrV} {P : PrM} {L : List FrM} {lv : Sl} {v0 : World}
theorem docAll_len {P : PrM} {Fx : FxM} {L : List FrM} (hL : L.length ≤ 24) (hm : ∀ m ∈ L, m.loc.length ≤ 100 ∧ m.stk.length ≤ 100) (k : Nat) : (docAll P Fx (L.take k)).length ≤ 4800 := by
  rw [← maps_doc]; exact mapsAll_len hL hm k
theorem linv_kinds (hL : LInv P L) : ∀ m ∈ L, kindsV m.loc = kindsOf P m := fun m hm => (hL.m m hm).k
set_option maxRecDepth 100000 in
set_option maxHeartbeats 16000000 in
theorem drefsM_any (h : DocF v0 w r q lv L) (hP : ReadP w q P) (hS : SmallP P) (hL : LInv P L) (va : Option Addr) (vn vc : Nat) (Fx : FxM) (hf : FacR w (.slice va vn vc) Fx) : Calls Try.prog 31 #[rp r, .slice va vn vc, .bool true] w (FRefsEnd w (docAll P Fx L)) := by
  have HP := Lib.hid hP; have HSM := Lib.hid hS; have HLI := Lib.hid hL
  have HYL := Lib.hid (docAll_len (P := P) (Fx := Fx) hL.n (linv_small hS hL))
  have HFX := Lib.hid hf
  have HMT := Lib.hid (fun w' (hb : Below w.heap.size w w') f a => rmet_any q P (.slice va vn vc) Fx f a w' (readP_below hP hb) (facR_below hf hb))
  obtain ⟨vfa, vfc, evf, vf2, vf3⟩ := facR_form hf
  injection evf with evf1 evf2 evf3
  subst evf1 evf2 evf3
  obtain ⟨f1, f2, f3⟩ := fn_len hP
  obtain ⟨n1, n2, n3⟩ := doc_len h
  obtain ⟨V, hv1, hv2, hv3, hv4⟩ := h.row
  obtain ⟨qu, ⟨qa, qn, qc⟩, qm, ⟨ra, rn, rc⟩⟩ := q
  obtain ⟨la, ln, lc⟩ := lv
  simp only at n1 n2 n3 f1 f2 f3 hv1
  subst n1 f1
  have HV1 := Lib.hid hv1; have HV3 := Lib.hid hv3; have HV4 := Lib.hid hv4
  have HRC : Hid (∀ w', Below w.heap.size w w' → ((w'.cell? ⟨r, 0, none⟩ = some (.bool qu) ∧ w'.cell? ⟨r, 1, none⟩ = some (.slice qa qn qc)) ∧ (w'.cell? ⟨r, 2, none⟩ = some (.int .i64 qm) ∧ w'.cell? ⟨r, 3, none⟩ = some (.slice ra P.fs.length rc))) ∧ w'.cell? ⟨r, 4, none⟩ = some (.slice la L.length lc)) := Lib.hid (fun w' hb => by
    have hx := (blk_below h.hd hb).2.1
    exact ⟨⟨⟨by simpa using hx 0 (by simp), by simpa using hx 1 (by simp)⟩, by simpa using hx 2 (by simp), by simpa using hx 3 (by simp)⟩, by simpa using hx 4 (by simp)⟩)
  have bz := h.hd.1
  have hn24 := hL.n
  have r4 := (HRC.out w (Below.refl _ _)).2
  unfold rp at *
  clear h hP hS hL hv1 hv2 hv3 hv4 hf
  go_enter Try.func31, Try.ntmps31
  go_wp2_with fail
  go_loopw [7, 22] (fun v i wr => ∃ k : Nat, k ≤ L.length ∧ i = .int .i64 k ∧ (∃ (a' : Option Addr) (n c' : Nat) (Y : List Int), v = .slice a' n c' ∧ n = Y.length ∧ Hid (Y = docAll P Fx (L.take k)) ∧ Hid (OwnR intE 3 wr w.heap.size (.slice a' Y.length c') Y)) ∧ Hid (Below w.heap.size w wr)) (fun _ i _ => L.length - (intOf i).toNat)
  case atStart => exact ⟨0, Nat.zero_le _, rfl, ⟨none, 0, 0, [], rfl, rfl, Lib.hid rfl, Lib.hid (ownR_nil _ _)⟩, Lib.hid (Below.refl _ _)⟩
  case round =>
    clear r4
    obtain ⟨W1, hW1⟩ : ∃ x, x = wr := ⟨_, rfl⟩
    subst hW1
    obtain ⟨k, hk, rfl, ⟨a', n', c', Y, rfl, rfl, HEQ, HOW⟩, HB⟩ := hrel
    have k0 : (0 : Int) ≤ k := by omega
    by_cases hlt : k < L.length
    · have k1 : (k : Int) < L.length := by omega
      have k9 : (k : Int) < 9223372036854775807 := by omega
      have kc : (k : Int) < lc := by omega
      have HT : Hid (docAll P Fx (L.take (k + 1)) = docAll P Fx (L.take k) ++ docOne P Fx L[k]) := Lib.hid (flatMap_take _ L k hlt)
      have hfi := HLI.out.m L[k] (List.getElem_mem hlt)
      have hml := inv_loc HSM.out hfi
      obtain ⟨bl, off, cp, e1, r1, r2, hbl, r4⟩ := readR_pos (readR_below HV1.out HB.out) (by have := HV3.out; omega)
      injection e1 with e1 e1b e3
      subst e1
      have hjv : k < V.length := by have := HV3.out; omega
      have d0 : W1.cell? ⟨bl, off + k * 4, none⟩ = some (.int .i64 V[k].f) := r4 k hjv 0 (by decide)
      have d1 : W1.cell? ⟨bl, off + k * 4 + 1, none⟩ = some (.int .i64 V[k].at_) := r4 k hjv 1 (by decide)
      have d2 : W1.cell? ⟨bl, off + k * 4 + 2, none⟩ = some (.slice V[k].l.a V[k].l.n V[k].l.c) := r4 k hjv 2 (by decide)
      have d3 : W1.cell? ⟨bl, off + k * 4 + 3, none⟩ = some (.slice V[k].s.a V[k].s.n V[k].s.c) := r4 k hjv 3 (by decide)
      obtain ⟨gf9, ga9, gl9, glt9, gs9, gst9⟩ := HV4.out k hjv hlt
      generalize V[k] = v9 at *
      obtain ⟨m9, hmm9⟩ : ∃ m9, m9 = L[k] := ⟨_, rfl⟩
      rw [← hmm9] at HT hfi hml gf9 ga9 gl9 gs9
      clear hmm9 glt9 gst9 r1 r2 r4 e1b e3 hjv
      obtain ⟨vf, va9, ⟨xa, xn, xc⟩, ⟨ya, yn, yc⟩⟩ := v9
      obtain ⟨mf, mat, loc, stk⟩ := m9
      simp only at d0 d1 d2 d3 gf9 ga9 gl9 gs9 hml
      obtain ⟨i, hi⟩ : ∃ i : Nat, mf = i := ⟨mf.toNat, by have := hfi.f0; simp only at this; omega⟩
      subst gf9 hi
      replace ga9 := ga9.symm
      subst ga9
      have hiP : i < P.fs.length := by have := hfi.f1; simp only at this; omega
      have g7 : xn = loc.length := by
        obtain ⟨_, _, e7, _⟩ := readR_len gl9
        injection e7
      have g8 : yn = stk.length := by
        obtain ⟨_, _, e7, _⟩ := readR_len gs9
        injection e7
      subst g7 g8
      have lxN : loc.length ≤ xc := by
        obtain ⟨_, _, ex, hx2, _⟩ := readR_len gl9
        injection ex with _ _ ex
        rw [ex]; exact hx2
      have lx : (loc.length : Int) ≤ xc := Int.ofNat_le.2 lxN
      have lyN : stk.length ≤ yc := by
        obtain ⟨_, _, ex, hx2, _⟩ := readR_len gs9
        injection ex with _ _ ex
        rw [ex]; exact hx2
      have ly : (stk.length : Int) ≤ yc := Int.ofNat_le.2 lyN
      have hms : stk.length ≤ 16 := hfi.s
      have HA1 := Lib.hid gl9; have HA2 := Lib.hid gs9; have HFI := Lib.hid hfi; have HML := Lib.hid hml; have HMS := Lib.hid hms
      have hYL : Y.length ≤ 4800 := by rw [HEQ.out]; exact HYL.out k
      have HY := Lib.hid hYL
      have i0 : (0 : Int) ≤ i := by omega
      have i1 : (i : Int) < P.fs.length := by omega
      have ic : (i : Int) < rc := by omega
      clear gl9 gs9 hfi hYL
      have hnx : ∀ j, (Value.slice a' Y.length c').ownBlock = some j → w.heap.size ≤ j ∧ j < W1.heap.size := ownR_lt HOW.out
      have HNX := Lib.hid hnx
      clear hnx
      go_upto_region 5 with fail
      refine wp_named ?_
      intro W2 hW2
      have HX9 : Hid (Blk W2 W1.heap.size [.int .i64 i, .int .i64 mat, .slice xa loc.length xc, .slice ya stk.length yc]) := Lib.hid (by rw [hW2]; exact blk_new _ _ _)
      have HB12 : Hid (Below W1.heap.size W1 W2) := Lib.hid (by rw [hW2]; exact b_alloc (Below.refl _ _) _)
      clear hW2 d0 d1 d2 d3 hbl
      have HB2 := Lib.hid (b_call HB.out HB12.out)
      have HS5 : Hid (∀ w', Below W2.heap.size W2 w' → (((w'.cell? ⟨r, 0, none⟩ = some (.bool qu) ∧ w'.cell? ⟨r, 1, none⟩ = some (.slice qa qn qc)) ∧ (w'.cell? ⟨r, 2, none⟩ = some (.int .i64 qm) ∧ w'.cell? ⟨r, 3, none⟩ = some (.slice ra P.fs.length rc))) ∧ (w'.cell? ⟨W1.heap.size, 0, none⟩ = some (.int .i64 i) ∧ w'.cell? ⟨W1.heap.size, 1, none⟩ = some (.int .i64 mat)))) := Lib.hid (fun w' hb => by
        obtain ⟨x0, x1, _⟩ := blk4 (blk_below HX9.out hb)
        exact ⟨(HRC.out w' (b_call HB2.out hb)).1, x0, x1⟩)
      obtain ⟨tm, htm⟩ : ∃ tm, tm = metB P Fx i mat := ⟨_, rfl⟩
      have HTM := Lib.hid htm
      clear htm
      have HMC := Lib.hid (HMT.out W2.drew (b_drew HB2.out) i mat)
      rw [← HTM.out] at HMC
      cases tm with
      | false =>
        refine wp_region_held_drew (S := fun w' => (((w'.cell? ⟨r, 0, none⟩ = some (.bool qu) ∧ w'.cell? ⟨r, 1, none⟩ = some (.slice qa qn qc)) ∧ (w'.cell? ⟨r, 2, none⟩ = some (.int .i64 qm) ∧ w'.cell? ⟨r, 3, none⟩ = some (.slice ra P.fs.length rc))) ∧ (w'.cell? ⟨W1.heap.size, 0, none⟩ = some (.int .i64 i) ∧ w'.cell? ⟨W1.heap.size, 1, none⟩ = some (.int .i64 mat)))) (by kernel_rfl) (HS5.out _ (b_drew (Below.refl _ _))) (fun hHeld => ?_)
        refine atI 0 ?_
        iterate 11 (refine takeN (v := ?_) rfl (by rfl) ?_ hHeld ?_; rotate_left; (focus (intro w hSw; (try dsimp only at hSw); go_simp; try (with_reducible rfl))); (try simp only [Act.put, Nat.reduceAdd, List.getElem_toArray, List.getElem_cons_succ, List.getElem_cons_zero, List.setIfInBounds_toArray, List.set_cons_zero, List.set_cons_succ]))
        refine atIo ?_
        refine wpAnyH_ready (rs := [11]) (by kernel_rfl) (by simp) (AllReadyH.cons rfl (fun K hK => ?_) AllReadyH.nil)
        go_simp
        refine HMC.out.mono ?_
        rintro e w3 ⟨rfl, hb3⟩
        have HB23 : Hid (Below W2.heap.size W2 w3) := Lib.hid (b_call (b_drew (Below.refl _ _)) hb3)
        clear hb3 HMC
        refine hK.out _ _ (HS5.out _ HB23.out) (fun hHeld => ?_)
        clear hK K
        (try simp only [Act.put, List.getElem_toArray, List.getElem_cons_succ, List.getElem_cons_zero, List.setIfInBounds_toArray, List.set_cons_zero, List.set_cons_succ])
        refine atI 12 ?_
        iterate 2 (refine takeN (v := ?_) rfl (by rfl) ?_ hHeld ?_; rotate_left; (focus (intro w hSw; (try dsimp only at hSw); go_simp; try (with_reducible rfl))); (try simp only [Act.put, Nat.reduceAdd, List.getElem_toArray, List.getElem_cons_succ, List.getElem_cons_zero, List.setIfInBounds_toArray, List.set_cons_zero, List.set_cons_succ]))
        refine atIo ?_
        refine wpAnyH_done (by kernel_rfl) ?_ _
        have HB13 := Lib.hid (b_call HB12.out HB23.out)
        have HX93 := Lib.hid (blk_below HX9.out HB23.out)
        obtain ⟨W3, hW3⟩ : ∃ x, x = w3 := ⟨_, rfl⟩
        subst hW3
        have HONE : Hid (docOne P Fx ⟨i, mat, loc, stk⟩ = []) := Lib.hid (by unfold docOne; rw [if_neg (by show ¬ metB P Fx i mat = true; rw [← HTM.out]; decide)])
        go_wp2_with fail
        go_roundw
        case rel => exact ⟨k + 1, by omega, by first | rfl | go_num, ⟨a', Y.length, c', Y, rfl, rfl, Lib.hid (by rw [HT.out, HONE.out, List.append_nil, HEQ.out]), Lib.hid (ownR_below HOW.out HB13.out)⟩, Lib.hid (b_call HB.out HB13.out)⟩
        case measure => simp [intOf]; omega
      | true =>
      refine wp_region_held_drew (S := fun w' => (((w'.cell? ⟨r, 0, none⟩ = some (.bool qu) ∧ w'.cell? ⟨r, 1, none⟩ = some (.slice qa qn qc)) ∧ (w'.cell? ⟨r, 2, none⟩ = some (.int .i64 qm) ∧ w'.cell? ⟨r, 3, none⟩ = some (.slice ra P.fs.length rc))) ∧ (w'.cell? ⟨W1.heap.size, 0, none⟩ = some (.int .i64 i) ∧ w'.cell? ⟨W1.heap.size, 1, none⟩ = some (.int .i64 mat)))) (by kernel_rfl) (HS5.out _ (b_drew (Below.refl _ _))) (fun hHeld => ?_)
      refine atI 0 ?_
      iterate 11 (refine takeN (v := ?_) rfl (by rfl) ?_ hHeld ?_; rotate_left; (focus (intro w hSw; (try dsimp only at hSw); go_simp; try (with_reducible rfl))); (try simp only [Act.put, Nat.reduceAdd, List.getElem_toArray, List.getElem_cons_succ, List.getElem_cons_zero, List.setIfInBounds_toArray, List.set_cons_zero, List.set_cons_succ]))
      refine atIo ?_
      refine wpAnyH_ready (rs := [11]) (by kernel_rfl) (by simp) (AllReadyH.cons rfl (fun K hK => ?_) AllReadyH.nil)
      go_simp
      refine HMC.out.mono ?_
      rintro e w3 ⟨rfl, hb3⟩
      have HB23 : Hid (Below W2.heap.size W2 w3) := Lib.hid (b_call (b_drew (Below.refl _ _)) hb3)
      clear hb3 HMC
      refine hK.out _ _ (HS5.out _ HB23.out) (fun hHeld => ?_)
      clear hK K
      (try simp only [Act.put, List.getElem_toArray, List.getElem_cons_succ, List.getElem_cons_zero, List.setIfInBounds_toArray, List.set_cons_zero, List.set_cons_succ])
      refine atI 12 ?_
      iterate 2 (refine takeN (v := ?_) rfl (by rfl) ?_ hHeld ?_; rotate_left; (focus (intro w hSw; (try dsimp only at hSw); go_simp; try (with_reducible rfl))); (try simp only [Act.put, Nat.reduceAdd, List.getElem_toArray, List.getElem_cons_succ, List.getElem_cons_zero, List.setIfInBounds_toArray, List.set_cons_zero, List.set_cons_succ]))
      refine atIo ?_
      refine wpAnyH_done (by kernel_rfl) ?_ _
      have HB13 := Lib.hid (b_call HB12.out HB23.out)
      have HX93 := Lib.hid (blk_below HX9.out HB23.out)
      obtain ⟨W3, hW3⟩ : ∃ x, x = w3 := ⟨_, rfl⟩
      subst hW3
      obtain ⟨i', j8, ei, ej, _, hx8, _, hj8⟩ := met_true HTM.out.symm
      have ei' : i' = i := by omega
      subst ei' ej
      rw [getD_at hx8] at hj8
      have HONE : Hid (docOne P Fx ⟨i', j8, loc, stk⟩ = refW loc (P.fs[i'].ps ++ P.fs[i'].ls) ++ refW stk (Fx[i'][j8]).2) := Lib.hid (by
        unfold docOne kindsOf factM
        rw [if_pos (by show metB P Fx i' j8 = true; exact HTM.out.symm)]
        show refW loc ((P.fs.getD (i' : Int).toNat fzM).ps ++ (P.fs.getD (i' : Int).toNat fzM).ls) ++ refW stk ((Fx.getD (i' : Int).toNat []).getD (j8 : Int).toNat (false, [])).2 = _
        rw [Int.toNat_natCast, Int.toNat_natCast, getD_at hiP, getD_at hx8, getD_at hj8])
      obtain ⟨ub, uo, us, eu, hub, hcu, hFL⟩ := facR_at HFX.out hx8
      obtain ⟨tb, tof, ut, et, htb, htc0, htc, hKF⟩ := facL_at hFL hj8
      obtain ⟨u1, u2, u3⟩ := facL_form hFL
      obtain ⟨uu0, un0, uc0⟩ := us
      obtain ⟨ta0, tn0, tc0⟩ := ut
      simp only at u1 u2 u3 et hcu htc
      subst u1 et
      subst eu
      obtain ⟨kf1, kf2, kf3⟩ := int_len hKF
      simp only at kf1 kf2 kf3
      subst kf1
      have jx0 : (0 : Int) ≤ j8 := by omega
      have jx1 : (j8 : Int) < Fx[i'].length := by omega
      have jx2 : (j8 : Int) < uc0 := by omega
      have jx3 : (i' : Int) < Fx.length := by omega
      have jx4 : (i' : Int) < vc := by omega
      obtain ⟨NF, hNF⟩ : ∃ NF, NF = Fx[i'].length := ⟨_, rfl⟩
      obtain ⟨KF, hKFE⟩ : ∃ KF, KF = (Fx[i'][j8]).2 := ⟨_, rfl⟩
      rw [← hKFE] at HONE htc hKF kf2
      rw [← hNF] at hcu jx1
      have HKF := Lib.hid hKF
      have HFC : Hid (∀ w', Below w.heap.size w w' → w'.cell? ⟨ub, uo + i', none⟩ = some (.slice (some ⟨tb, tof, none⟩) NF uc0) ∧ w'.cell? ⟨tb, tof + j8 * 2 + 1, none⟩ = some (.slice ta0 KF.length tc0)) := Lib.hid (fun w' hb => by
        have hc := (bcell hb).1
        exact ⟨(hc _ _ hub).trans hcu, (hc _ _ htb).trans htc⟩)
      clear hNF hKFE hcu htc htc0 hub htb hFL hKF u2 u3 hx8 hj8 ei HMT
      obtain ⟨i, hii⟩ : ∃ i, i = i' := ⟨_, rfl⟩
      subst hii
      go_upto_region 6 with fail
      obtain ⟨fb, fo, ea, hfb, ⟨⟨pa, pn, pc⟩, ⟨la2, ln2, lc2⟩, fr, ⟨ca, cn, cc⟩⟩, hd, e0, e1, e2, e3⟩ := fn_at HP.out hiP
      have hvr := hd.r
      simp only at ea e0 e1 e2 e3 hvr
      rw [← hvr] at e2
      subst ea
      have HB3 := Lib.hid (b_call HB.out HB13.out)
      have HS6 : Hid (∀ w', Below W3.heap.size W3 w' → (w'.cell? ⟨r, 3, none⟩ = some (.slice (some ⟨fb, fo, none⟩) P.fs.length rc) ∧ w'.cell? ⟨W1.heap.size, 0, none⟩ = some (.int .i64 i)) ∧ ((w'.cell? ⟨fb, fo + i * 4, none⟩ = some (.slice pa pn pc) ∧ w'.cell? ⟨fb, fo + i * 4 + 1, none⟩ = some (.slice la2 ln2 lc2)) ∧ (w'.cell? ⟨fb, fo + i * 4 + 2, none⟩ = some (.int .i64 fr) ∧ w'.cell? ⟨fb, fo + i * 4 + 3, none⟩ = some (.slice ca cn cc)))) := Lib.hid (fun w' hb => by
        have hb2 := b_call HB3.out hb
        have hc := (bcell hb2).1
        obtain ⟨x0, _⟩ := blk4 (blk_below HX93.out hb)
        exact ⟨⟨(HRC.out w' hb2).1.2.2, x0⟩, ⟨(hc _ _ hfb).trans e0, (hc _ _ hfb).trans e1⟩, (hc _ _ hfb).trans e2, (hc _ _ hfb).trans e3⟩)
      have hsm := HSM.out.a _ (List.getElem_mem hiP)
      obtain ⟨PS, hPS⟩ : ∃ PS, PS = P.fs[i].ps := ⟨_, rfl⟩
      obtain ⟨LS, hLS⟩ : ∃ LS, LS = P.fs[i].ls := ⟨_, rfl⟩
      have HPS : Hid (ReadI w (.slice pa pn pc) PS) := Lib.hid (by rw [hPS]; exact hd.p)
      have HLS : Hid (ReadI w (.slice la2 ln2 lc2) LS) := Lib.hid (by rw [hLS]; exact hd.l)
      have HLEN : Hid (PS.length ≤ 100 ∧ LS.length ≤ 100) := Lib.hid (by rw [hPS, hLS]; have := hsm.p; have := hsm.l; omega)
      have HKL : Hid (kindsV loc = PS ++ LS) := Lib.hid (by
        have z := HFI.out.k
        rw [hPS, hLS]
        simp only [Int.toNat_natCast] at z
        rw [getD_at9 hiP] at z
        exact z)
      rw [← hPS, ← hLS] at HONE
      clear hPS hLS hsm hd hvr e0 e1 e2 e3 hfb
      refine wp_region_held_drew (S := fun w' => (w'.cell? ⟨r, 3, none⟩ = some (.slice (some ⟨fb, fo, none⟩) P.fs.length rc) ∧ w'.cell? ⟨W1.heap.size, 0, none⟩ = some (.int .i64 i)) ∧ ((w'.cell? ⟨fb, fo + i * 4, none⟩ = some (.slice pa pn pc) ∧ w'.cell? ⟨fb, fo + i * 4 + 1, none⟩ = some (.slice la2 ln2 lc2)) ∧ (w'.cell? ⟨fb, fo + i * 4 + 2, none⟩ = some (.int .i64 fr) ∧ w'.cell? ⟨fb, fo + i * 4 + 3, none⟩ = some (.slice ca cn cc)))) (by kernel_rfl) (HS6.out _ (b_drew (Below.refl _ _))) (fun hHeld => ?_)
      refine atI 0 ?_
      iterate 9 (refine takeN (v := ?_) rfl (by rfl) ?_ hHeld ?_; rotate_left; (focus (intro w hSw; (try dsimp only at hSw); go_simp; try (with_reducible rfl))); (try simp only [Act.put, Nat.reduceAdd, List.getElem_toArray, List.getElem_cons_succ, List.getElem_cons_zero, List.setIfInBounds_toArray, List.set_cons_zero, List.set_cons_succ]))
      refine atIo ?_
      refine wpAnyH_named ?_
      intro q0 hq0
      have HBq0 : Hid (Below W3.heap.size W3 q0) := Lib.hid (by rw [hq0]; exact b_drew (Below.refl _ _))
      clear hq0
      replace hHeld := HS6.out _ HBq0.out
      refine wpAnyH_ready (rs := [9]) (by kernel_rfl) (by simp) (AllReadyH.cons rfl (fun K hK => ?_) AllReadyH.nil)
      go_simp
      refine hK.out _ _ (HS6.out _ (b_alloc HBq0.out _)) (fun hHeld => ?_)
      clear hK K
      (try simp only [Act.put, List.getElem_toArray, List.getElem_cons_succ, List.getElem_cons_zero, List.setIfInBounds_toArray, List.set_cons_zero, List.set_cons_succ])
      refine wpAnyH_named ?_
      intro q1 hq1
      have ZX := Lib.hid (show Blk q1 q0.heap.size [.slice none 0 0, .slice none 0 0, .int .i64 0, .slice none 0 0] by rw [hq1]; exact blk_new _ _ _)
      have HBq1 : Hid (Below W3.heap.size W3 q1) := Lib.hid (by rw [hq1]; exact b_alloc HBq0.out _)
      have hR10 : W3.heap.size ≤ q0.heap.size := HBq0.out.size
      obtain ⟨R10, hR⟩ : ∃ R, R = q0.heap.size := ⟨_, rfl⟩
      rw [← hR] at hR10 ZX ⊢
      clear hq1 hR
      replace hHeld := HS6.out _ HBq1.out
      obtain ⟨z0, z1, z2, z3, zf⟩ := blk4 ZX.out
      have zz := ZX.out.1
      refine wpAnyH_ready (rs := [10]) (by kernel_rfl) (by simp) (AllReadyH.cons rfl (fun K hK => ?_) AllReadyH.nil)
      go_simp
      refine hK.out _ _ (HS6.out _ (b_set (b_set (b_set (b_set HBq1.out (p := ⟨R10, 0, none⟩) hR10 _) (p := ⟨R10, 1, none⟩) hR10 _) (p := ⟨R10, 2, none⟩) hR10 _) (p := ⟨R10, 3, none⟩) hR10 _)) (fun hHeld => ?_)
      clear hK K
      (try simp only [Act.put, List.getElem_toArray, List.getElem_cons_succ, List.getElem_cons_zero, List.setIfInBounds_toArray, List.set_cons_zero, List.set_cons_succ])
      refine wpAnyH_done (by kernel_rfl) ?_ _
      go_upto_region 7 with fail
      refine wp_named ?_
      intro W4 hW4
      have HX10 : Hid (Blk W4 R10 [.slice pa pn pc, .slice la2 ln2 lc2, .int .i64 fr, .slice ca cn cc]) := Lib.hid (by rw [hW4]; exact blk_set (blk_set (blk_set (blk_set ZX.out 0 _) 1 _) 2 _) 3 _)
      have HB34 : Hid (Below W3.heap.size W3 W4) := Lib.hid (by rw [hW4]; exact b_set (b_set (b_set (b_set HBq1.out (p := ⟨R10, 0, none⟩) hR10 _) (p := ⟨R10, 1, none⟩) hR10 _) (p := ⟨R10, 2, none⟩) hR10 _) (p := ⟨R10, 3, none⟩) hR10 _)
      have HB4 := Lib.hid (b_call HB3.out HB34.out)
      clear hW4 z0 z1 z2 z3 zf zz ZX HBq0 HBq1 HS6
      have HS7 : Hid (∀ w', Below W4.heap.size W4 w' → w'.cell? ⟨R10, 0, none⟩ = some (.slice pa pn pc) ∧ w'.cell? ⟨R10, 1, none⟩ = some (.slice la2 ln2 lc2)) := Lib.hid (fun w' hb => by
        obtain ⟨x0, x1, _⟩ := blk4 (blk_below HX10.out hb)
        exact ⟨x0, x1⟩)
      refine wp_region_held_drew (S := fun w' => w'.cell? ⟨R10, 0, none⟩ = some (.slice pa pn pc) ∧ w'.cell? ⟨R10, 1, none⟩ = some (.slice la2 ln2 lc2)) (by kernel_rfl) (HS7.out _ (b_drew (Below.refl _ _))) (fun hHeld => ?_)
      refine atI 1 ?_
      iterate 2 (refine takeN (v := ?_) rfl (by rfl) ?_ hHeld ?_; rotate_left; (focus (intro w hSw; (try dsimp only at hSw); go_simp; try (with_reducible rfl))); (try simp only [Act.put, Nat.reduceAdd, List.getElem_toArray, List.getElem_cons_succ, List.getElem_cons_zero, List.setIfInBounds_toArray, List.set_cons_zero, List.set_cons_succ]))
      refine atIo ?_
      refine atI 4 ?_
      iterate 2 (refine takeN (v := ?_) rfl (by rfl) ?_ hHeld ?_; rotate_left; (focus (intro w hSw; (try dsimp only at hSw); go_simp; try (with_reducible rfl))); (try simp only [Act.put, Nat.reduceAdd, List.getElem_toArray, List.getElem_cons_succ, List.getElem_cons_zero, List.setIfInBounds_toArray, List.set_cons_zero, List.set_cons_succ]))
      refine atIo ?_
      refine wpAnyH_named ?_
      intro q4 hq4
      have HBq4 : Hid (Below W4.heap.size W4 q4) := Lib.hid (by rw [hq4]; exact b_drew (Below.refl _ _))
      clear hq4
      replace hHeld := HS7.out _ HBq4.out
      refine wpAnyH_ready (rs := [0]) (by kernel_rfl) (by simp) (AllReadyH.cons rfl (fun K hK => ?_) AllReadyH.nil)
      go_simp
      refine hK.out _ _ (HS7.out _ (b_alloc HBq4.out _)) (fun hHeld => ?_)
      clear hK K
      (try simp only [Act.put, List.getElem_toArray, List.getElem_cons_succ, List.getElem_cons_zero, List.setIfInBounds_toArray, List.set_cons_zero, List.set_cons_succ])
      refine wpAnyH_named ?_
      intro q5 hq5
      have HBq5 : Hid (Below W4.heap.size W4 q5) := Lib.hid (by rw [hq5]; exact b_alloc HBq4.out _)
      have OWq5 : Hid (OwnR intE 3 q5 W4.heap.size (.slice (some ⟨q4.heap.size, 0, none⟩) 0 0) []) := Lib.hid (by rw [hq5]; exact own_emptyR HBq4.out.size)
      clear hq5
      replace hHeld := HS7.out _ HBq5.out
      refine wpAnyH_ready (rs := [3]) (by kernel_rfl) (by simp) (AllReadyH.cons rfl (fun K hK => ?_) AllReadyH.nil)
      refine step_appendR rowInt (by rfl) _ _ (by rfl) W4.heap.size _ [] (by rfl) OWq5.out _ PS (by rfl) (readI_R (readI_below HPS.out (b_call HB4.out HBq5.out))) (by have := HLEN.out; simp only [List.length_nil]; omega) (by have := HLEN.out; simp only [List.length_nil]; unfold maxLen; omega) HBq5.out.size ?_
      intro vq6 q6 own6 hg6
      rw [List.nil_append] at own6
      have HBq6 := Lib.hid (b_ownR HBq5.out OWq5.out hg6)
      have OWq6 := Lib.hid own6
      clear own6 hg6
      refine hK.out _ _ (HS7.out _ HBq6.out) (fun hHeld => ?_)
      clear hK K
      (try simp only [Act.put, List.getElem_toArray, List.getElem_cons_succ, List.getElem_cons_zero, List.setIfInBounds_toArray, List.set_cons_zero, List.set_cons_succ])
      refine wpAnyH_ready (rs := [6]) (by kernel_rfl) (by simp) (AllReadyH.cons rfl (fun K hK => ?_) AllReadyH.nil)
      refine step_appendR rowInt (by rfl) _ _ (by rfl) W4.heap.size _ PS (by rfl) OWq6.out _ LS (by rfl) (readI_R (readI_below HLS.out (b_call HB4.out HBq6.out))) (by have := HLEN.out; omega) (by have := HLEN.out; unfold maxLen; omega) HBq6.out.size ?_
      intro vq7 q7 own7 hg7
      have HBq7 := Lib.hid (b_ownR HBq6.out OWq6.out hg7)
      obtain ⟨KS, hKS⟩ : ∃ KS, KS = PS ++ LS := ⟨_, rfl⟩
      rw [← hKS] at own7 HKL HONE
      obtain ⟨ka, kc2, hvq7, hkl2, hkl3⟩ := readR_len (ownR_read own7)
      subst hvq7
      have OWq7 := Lib.hid own7
      have hkcap := cap_le hkl3
      have hkb : (KS.length : Int) ≤ kc2 := by omega
      clear own7 hg7 hKS hkl3
      refine hK.out _ _ (HS7.out _ HBq7.out) (fun hHeld => ?_)
      clear hK K
      (try simp only [Act.put, List.getElem_toArray, List.getElem_cons_succ, List.getElem_cons_zero, List.setIfInBounds_toArray, List.set_cons_zero, List.set_cons_succ])
      (refine wpAnyH_take (i := 7) (v := ?_) rfl (by kernel_rfl) (by kernel_rfl) (by kernel_rfl) (fun _ _ _ h => h) (Or.inl ⟨by rfl, ?_⟩) hHeld ?_; rotate_left; (focus (intro w hSw; (try dsimp only at hSw); go_simp; try (with_reducible rfl))); (try simp only [Act.put, List.getElem_toArray, List.getElem_cons_succ, List.getElem_cons_zero, List.setIfInBounds_toArray, List.set_cons_zero, List.set_cons_succ]))
      refine wpAnyH_done (by kernel_rfl) ?_ _
      go_upto_region 8 with fail
      refine wp_named ?_
      intro W5 hW5
      have HB45 : Hid (Below W4.heap.size W4 W5) := Lib.hid (by rw [hW5]; exact HBq7.out)
      have HOK : Hid (OwnR intE 3 W5 W4.heap.size (.slice ka KS.length kc2) KS) := Lib.hid (by rw [hW5]; exact OWq7.out)
      have HB5 := Lib.hid (b_call HB4.out HB45.out)
      have HX95 := Lib.hid (blk_below HX93.out (b_call HB34.out HB45.out))
      have HO5 := Lib.hid (ownR_below HOW.out (b_call HB13.out (b_call HB34.out HB45.out)))
      have HKLL : Hid (KS.length = loc.length) := Lib.hid (by rw [← HKL.out]; simp [kindsV])
      have HW14 : Hid (W1.heap.size ≤ W4.heap.size ∧ W1.heap.size < W5.heap.size) := Lib.hid ⟨Nat.le_trans HB13.out.size HB34.out.size, HX95.out.1⟩
      clear hW5 HBq4 HBq5 HBq6 HBq7 OWq5 OWq6 OWq7 HS7
      obtain ⟨x0, x1, x2, x3, xf⟩ := blk4 HX95.out
      have xz := HX95.out.1
      go_wp2_with fail
      clear x0 x1 x2 x3 xf xz
      go_loopw [7, 59] (fun v i wr => ∃ j : Nat, j ≤ loc.length ∧ i = .int .i64 j ∧ (∃ (a2 : Option Addr) (n2 c2 : Nat) (Y2 : List Int), v = .slice a2 n2 c2 ∧ n2 = Y2.length ∧ Hid (Y2 = Y ++ refW (loc.take j) KS) ∧ Hid (OwnR intE 3 wr w.heap.size (.slice a2 Y2.length c2) Y2) ∧ Hid (OwnOr W5 (.slice a' Y.length c') (.slice a2 Y2.length c2))) ∧ Hid (GrowX W5 wr (fun j => (Value.slice a' Y.length c').ownBlock = some j))) (fun _ i _ => loc.length - (intOf i).toNat)
      case atStart => exact ⟨0, Nat.zero_le _, rfl, ⟨a', Y.length, c', Y, rfl, rfl, Lib.hid (by simp [refW]), HO5, Lib.hid (fun k hk => Or.inl hk)⟩, Lib.hid (gx_refl _ _)⟩
      case round =>
        obtain ⟨W6, hW6⟩ : ∃ x, x = wr := ⟨_, rfl⟩
        subst hW6
        obtain ⟨j, hj, rfl, ⟨a2, n2, c2, Y2, rfl, rfl, HE2, HO6, HOR⟩, HG6⟩ := hrel
        have j0 : (0 : Int) ≤ j := by omega
        have HB6 : Hid (Below w.heap.size w W6) := Lib.hid (b_gx HB5.out HG6.out (fun j hj => (HNX.out j hj).1))
        have HX96 : Hid (Blk W6 W1.heap.size [.int .i64 i, .int .i64 j8, .slice xa loc.length xc, .slice ya stk.length yc]) := Lib.hid (blk_gx HX95.out HG6.out (fun q => by have := (HNX.out _ q).2; omega))
        by_cases hjl : j < loc.length
        · have j1 : (j : Int) < loc.length := by omega
          have jc : (j : Int) < xc := by omega
          have j9 : (j : Int) < 9223372036854775807 := by have := HML.out; omega
          obtain ⟨bv, ov, cv, f1, f2, f3, hbv, f4⟩ := valR_pos (readR_below HA1.out HB6.out) (by omega)
          injection f1 with f1 _ f5
          subst f1
          obtain ⟨y0, y1⟩ := f4 j hjl
          have HT2 := Lib.hid (refW_step (ks := KS) hjl Y)
          have HY2 : Hid (Y2.length ≤ 5000) := Lib.hid (by
            rw [HE2.out, List.length_append]
            have q := refW_len (loc.take j) KS
            rw [List.length_take] at q
            have := HML.out; have := HY.out; omega)
          obtain ⟨bk, ok, ck, h1, h2, h3, hbk, h4⟩ := readI_pos (readI_kept (readR_I (ownR_read HOK.out)) (fun b hb hlt => HG6.out.block b hlt (fun q => by have q1 := (HNX.out _ q).2; have q2 := (ownR_lt HOK.out b hb).1; have := HW14.out; omega)) HG6.out.size) (by have := HKLL.out; omega)
          injection h1 with h1 _ h5
          have hKj : j < KS.length := by have := HKLL.out; omega
          have kx1 : (j : Int) < KS.length := by omega
          have kx2 : (j : Int) < kc2 := by omega
          have hkc := h4 j hKj
          rw [List.getD_eq_getElem?_getD, List.getElem?_eq_getElem hKj, Option.getD_some] at hkc
          have HKJ : Hid (KS[j]? = some KS[j]) := Lib.hid (List.getElem?_eq_getElem hKj)
          rw [HKJ.out] at HT2
          generalize KS[j] = kj at *
          subst h1
          clear h2 h3 h4 h5
          generalize loc[j] = x at *
          obtain ⟨xk, xb⟩ := x
          simp only at y0 y1 HT2
          clear f2 f3 f4 f5
          go_upto_region 11 with fail
          refine wp_named ?_
          intro W7 hW7
          have S7 : Blk W7 W6.heap.size [.int .i64 xk, .int .u64 xb] ∧ Below W6.heap.size W6 W7 := by
            rw [hW7]; exact ⟨blk_new _ _ _, b_alloc (Below.refl _ _) _⟩
          have HO7 := Lib.hid (ownR_below HO6.out S7.2)
          have HG7 := Lib.hid (gx_call HG6.out S7.2)
          have HX7 := Lib.hid S7.1
          have HB67 := Lib.hid S7.2
          have hbs : w.heap.size ≤ W7.heap.size := by have := HB6.out.size; have := S7.2.size; omega
          clear hW7 S7 y0 y1 hbv
          have kcell : W7.cell? ⟨bk, ok + j, none⟩ = some (.int .i64 kj) := ((bcell HB67.out).1 _ _ hbk).trans hkc
          clear hkc hbk
          obtain ⟨z0, z1, _⟩ := blk2 HX7.out
          have zz := HX7.out.1
          by_cases hk2 : xk = 2
          · subst hk2
            by_cases hp2 : 0 < xb
            · by_cases hkj : kj = 2
              · subst hkj
                rw [if_pos ⟨rfl, hp2, rfl⟩] at HT2
                go_wp2_with (at_builtin; refine append1 (c := intE) rowInt (by rfl) _ _ (by rfl) (by rfl) (v := .slice a2 Y2.length c2) (L := Y2) (B := w.heap.size) (ownR_alloc HO7.out _) (refI xb) _ 1 (by rfl) (blk_new _ _ _) ?c1 ?c2 ?c3 ?_; (case c1 => (have := HY2.out; omega)); (case c2 => (have := HY2.out; unfold maxLen; omega)); (case c3 => (simp; omega)); intro g9 cap9 w9 ho9 hg9 hor9 hl9; have HO9 := Lib.hid ho9; have HGA := Lib.hid (grow_app (n := Y2.length + 1) (cap := cap9) (W6 := W5) HOR.out HG7.out hg9 hor9); clear ho9 hg9 hor9 hl9)
                go_roundw
                case rel => exact ⟨j + 1, by omega, by first | rfl | go_num, ⟨some ⟨g9, 0, none⟩, Y2.length + 1, cap9, Y2 ++ [refI xb], rfl, by simp, Lib.hid (by rw [HT2.out, HE2.out]), Lib.hid (by rw [List.length_append]; exact HO9.out), Lib.hid (by have z := HGA.out.1; rw [List.length_append]; exact z)⟩, Lib.hid HGA.out.2⟩
                case measure => simp [intOf]; omega
              · rw [if_neg (fun q => hkj (by injection q.2.2)), List.append_nil] at HT2
                have hkb2 : (kj == 2) = false := beq_false_of_ne hkj
                clear hkj
                go_wp2_with fail
                go_roundw
                case rel => exact ⟨j + 1, by omega, by first | rfl | go_num, ⟨a2, Y2.length, c2, Y2, rfl, rfl, Lib.hid (by rw [HT2.out, HE2.out]), HO7, HOR⟩, HG7⟩
                case measure => simp [intOf]; omega
            · rw [if_neg (fun q => hp2 q.2.1), List.append_nil] at HT2
              go_wp2_with fail
              go_roundw
              case rel => exact ⟨j + 1, by omega, by first | rfl | go_num, ⟨a2, Y2.length, c2, Y2, rfl, rfl, Lib.hid (by rw [HT2.out, HE2.out]), HO7, HOR⟩, HG7⟩
              case measure => simp [intOf]; omega
          · rw [if_neg (fun q => hk2 q.1), List.append_nil] at HT2
            have hxb : (xk == 2) = false := beq_false_of_ne hk2
            clear hk2
            go_wp2_with fail
            go_roundw
            case rel => exact ⟨j + 1, by omega, by first | rfl | go_num, ⟨a2, Y2.length, c2, Y2, rfl, rfl, Lib.hid (by rw [HT2.out, HE2.out]), HO7, HOR⟩, HG7⟩
            case measure => simp [intOf]; omega
        · have j1 : ¬ ((j : Int) < loc.length) := by omega
          have HE3 : Hid (Y2 = Y ++ refW loc KS) := Lib.hid (by rw [HE2.out, List.take_of_length_le (by omega)])
          clear HE2
          obtain ⟨x0, x1, x2, x3, xf⟩ := blk4 HX96.out
          have xz := HX96.out.1
          go_wp2_with fail
          clear x0 x1 x2 x3 xf xz
          go_loopw [7, 94] (fun v i wr => ∃ j : Nat, j ≤ stk.length ∧ i = .int .i64 j ∧ (∃ (a2 : Option Addr) (n2 c2 : Nat) (Y2 : List Int), v = .slice a2 n2 c2 ∧ n2 = Y2.length ∧ Hid (Y2 = (Y ++ refW loc KS) ++ refW (stk.take j) KF) ∧ Hid (OwnR intE 3 wr w.heap.size (.slice a2 Y2.length c2) Y2) ∧ Hid (OwnOr W5 (.slice a' Y.length c') (.slice a2 Y2.length c2))) ∧ Hid (GrowX W5 wr (fun j => (Value.slice a' Y.length c').ownBlock = some j))) (fun _ i _ => stk.length - (intOf i).toNat)
          case atStart => exact ⟨0, Nat.zero_le _, rfl, ⟨a2, Y2.length, c2, Y2, rfl, rfl, Lib.hid (by rw [HE3.out]; simp [refW]), HO6, HOR⟩, HG6⟩
          case round =>
            clear HO6 HOR HG6 HB6 HX96 HE3 j1
            obtain ⟨W6, hW6⟩ : ∃ x, x = wr := ⟨_, rfl⟩
            subst hW6
            obtain ⟨j, hj3, rfl, ⟨a2, n2, c2, Y2, rfl, rfl, HE2, HO6, HOR⟩, HG6⟩ := hrel
            have j0 : (0 : Int) ≤ j := by omega
            have HB6 : Hid (Below w.heap.size w W6) := Lib.hid (b_gx HB5.out HG6.out (fun j hj => (HNX.out j hj).1))
            have HX96 : Hid (Blk W6 W1.heap.size [.int .i64 i, .int .i64 j8, .slice xa loc.length xc, .slice ya stk.length yc]) := Lib.hid (blk_gx HX95.out HG6.out (fun q => by have := (HNX.out _ q).2; omega))
            by_cases hjl : j < stk.length
            · have j1 : (j : Int) < stk.length := by omega
              have jc : (j : Int) < yc := by omega
              have j9 : (j : Int) < 9223372036854775807 := by have := HMS.out; omega
              obtain ⟨bv, ov, cv, f1, f2, f3, hbv, f4⟩ := valR_pos (readR_below HA2.out HB6.out) (by omega)
              injection f1 with f1 _ f5
              subst f1
              obtain ⟨y0, y1⟩ := f4 j hjl
              have HT2 := Lib.hid (refW_step (ks := KF) hjl (Y ++ refW loc KS))
              have HY2 : Hid (Y2.length ≤ 5000) := Lib.hid (by
                rw [HE2.out, List.length_append]
                have q := refW_len (stk.take j) KF
                rw [List.length_take] at q
                rw [List.length_append]
                have q2 := refW_len loc KS
                have := HML.out; have := HMS.out; have := HY.out; omega)
              generalize stk[j] = x at *
              obtain ⟨xk, xb⟩ := x
              simp only at y0 y1 HT2
              clear f2 f3 f4 f5
              go_upto_region 17 with fail
              refine wp_named ?_
              intro W7 hW7
              have S7 : Blk W7 W6.heap.size [.int .i64 xk, .int .u64 xb] ∧ Below W6.heap.size W6 W7 := by
                rw [hW7]; exact ⟨blk_new _ _ _, b_alloc (Below.refl _ _) _⟩
              have HO7 := Lib.hid (ownR_below HO6.out S7.2)
              have HG7 := Lib.hid (gx_call HG6.out S7.2)
              have HX7 := Lib.hid S7.1
              have HB67 := Lib.hid S7.2
              have hbs : w.heap.size ≤ W7.heap.size := by have := HB6.out.size; have := S7.2.size; omega
              clear hW7 S7 y0 y1 hbv
              have HX97 := Lib.hid (blk_below HX96.out HB67.out)
              have HB7 := Lib.hid (b_call HB6.out HB67.out)
              have n17 : (j : Int) ≤ 16 := by have := HMS.out; omega
              by_cases hjn : j < KF.length
              · have jn1 : (j : Int) < KF.length := by omega
                have jn2 : (j : Int) < tc0 := by omega
                obtain ⟨bk, ok, ck, h1, h2, h3, hbk, h4⟩ := readI_pos HKF.out (by omega)
                injection h1 with h1 _ h5
                subst h1
                have hkc := h4 j hjn
                rw [List.getD_eq_getElem?_getD, List.getElem?_eq_getElem hjn, Option.getD_some] at hkc
                have HKJ : Hid (KF[j]? = some KF[j]) := Lib.hid (List.getElem?_eq_getElem hjn)
                rw [HKJ.out] at HT2
                have HKC := Lib.hid (fun w' (hb : Below w.heap.size w w') => ((bcell hb).1 _ _ hbk).trans hkc)
                generalize KF[j] = kj at *
                clear h2 h3 h4 h5 hkc hbk
                have HS17 : Hid (∀ w', Below W7.heap.size W7 w' → (w'.cell? ⟨W1.heap.size, 0, none⟩ = some (.int .i64 i) ∧ w'.cell? ⟨W1.heap.size, 1, none⟩ = some (.int .i64 j8)) ∧ (w'.cell? ⟨ub, uo + i, none⟩ = some (.slice (some ⟨tb, tof, none⟩) NF uc0) ∧ w'.cell? ⟨tb, tof + j8 * 2 + 1, none⟩ = some (.slice (some ⟨bk, ok, none⟩) KF.length tc0)) ∧ w'.cell? ⟨bk, ok + j, none⟩ = some (.int .i64 kj)) := Lib.hid (fun w' hb => by
                  obtain ⟨x0, x1, _⟩ := blk4 (blk_below HX97.out hb)
                  have hb2 := b_call HB7.out hb
                  exact ⟨⟨x0, x1⟩, (HFC.out w' hb2), HKC.out w' hb2⟩)
                refine wp_region_held_drew (S := fun w' => (w'.cell? ⟨W1.heap.size, 0, none⟩ = some (.int .i64 i) ∧ w'.cell? ⟨W1.heap.size, 1, none⟩ = some (.int .i64 j8)) ∧ (w'.cell? ⟨ub, uo + i, none⟩ = some (.slice (some ⟨tb, tof, none⟩) NF uc0) ∧ w'.cell? ⟨tb, tof + j8 * 2 + 1, none⟩ = some (.slice (some ⟨bk, ok, none⟩) KF.length tc0)) ∧ w'.cell? ⟨bk, ok + j, none⟩ = some (.int .i64 kj)) (by kernel_rfl) (HS17.out _ (b_drew (Below.refl _ _))) (fun hHeld => ?_)
                refine atI 0 ?_
                iterate 33 (refine takeN (v := ?_) rfl (by rfl) ?_ hHeld ?_; rotate_left; (focus (intro w hSw; (try dsimp only at hSw); go_simp; try (with_reducible rfl))); (try simp only [Act.put, Nat.reduceAdd, List.getElem_toArray, List.getElem_cons_succ, List.getElem_cons_zero, List.setIfInBounds_toArray, List.set_cons_zero, List.set_cons_succ]))
                refine atIo ?_
                refine wpAnyH_done (by kernel_rfl) ?_ _
                go_upto_region 18 with fail
                refine wp_named ?_
                intro W9 hW9
                replace HX7 : Hid (Blk W9 W6.heap.size [.int .i64 xk, .int .u64 xb]) := Lib.hid (by rw [hW9]; exact blk_drew HX7.out)
                replace HO7 := Lib.hid (show OwnR intE 3 W9 w.heap.size (.slice a2 Y2.length c2) Y2 by rw [hW9]; exact ownR_below HO7.out (b_drew (Below.refl _ _)))
                replace HG7 := Lib.hid (show GrowX W5 W9 (fun j => (Value.slice a' Y.length c').ownBlock = some j) by rw [hW9]; exact gx_drew HG7.out)
                replace hbs : w.heap.size ≤ W9.heap.size := by rw [hW9]; exact hbs
                clear hW9
                obtain ⟨z0, z1, _⟩ := blk2 HX7.out
                have zz := HX7.out.1
                by_cases hk2 : xk = 2
                · subst hk2
                  by_cases hp2 : 0 < xb
                  · by_cases hkj : kj = 2
                    · subst hkj
                      rw [if_pos ⟨rfl, hp2, rfl⟩] at HT2
                      go_wp2_with (at_builtin; refine append1 (c := intE) rowInt (by rfl) _ _ (by rfl) (by rfl) (v := .slice a2 Y2.length c2) (L := Y2) (B := w.heap.size) (ownR_alloc HO7.out _) (refI xb) _ 1 (by rfl) (blk_new _ _ _) ?c1 ?c2 ?c3 ?_; (case c1 => (have := HY2.out; omega)); (case c2 => (have := HY2.out; unfold maxLen; omega)); (case c3 => (simp; omega)); intro g9 cap9 w9 ho9 hg9 hor9 hl9; have HO9 := Lib.hid ho9; have HGA := Lib.hid (grow_app (n := Y2.length + 1) (cap := cap9) (W6 := W5) HOR.out HG7.out hg9 hor9); clear ho9 hg9 hor9 hl9)
                      go_roundw
                      case rel => exact ⟨j + 1, by omega, by first | rfl | go_num, ⟨some ⟨g9, 0, none⟩, Y2.length + 1, cap9, Y2 ++ [refI xb], rfl, by simp, Lib.hid (by rw [HT2.out, HE2.out]), Lib.hid (by rw [List.length_append]; exact HO9.out), Lib.hid (by have z := HGA.out.1; rw [List.length_append]; exact z)⟩, Lib.hid HGA.out.2⟩
                      case measure => simp [intOf]; omega
                    · rw [if_neg (fun q => hkj (by injection q.2.2)), List.append_nil] at HT2
                      have hkb2 : (kj == 2) = false := beq_false_of_ne hkj
                      clear hkj
                      go_wp2_with fail
                      go_roundw
                      case rel => exact ⟨j + 1, by omega, by first | rfl | go_num, ⟨a2, Y2.length, c2, Y2, rfl, rfl, Lib.hid (by rw [HT2.out, HE2.out]), HO7, HOR⟩, HG7⟩
                      case measure => simp [intOf]; omega
                  · rw [if_neg (fun q => hp2 q.2.1), List.append_nil] at HT2
                    go_wp2_with fail
                    go_roundw
                    case rel => exact ⟨j + 1, by omega, by first | rfl | go_num, ⟨a2, Y2.length, c2, Y2, rfl, rfl, Lib.hid (by rw [HT2.out, HE2.out]), HO7, HOR⟩, HG7⟩
                    case measure => simp [intOf]; omega
                · rw [if_neg (fun q => hk2 q.1), List.append_nil] at HT2
                  have hxb : (xk == 2) = false := beq_false_of_ne hk2
                  clear hk2
                  go_wp2_with fail
                  go_roundw
                  case rel => exact ⟨j + 1, by omega, by first | rfl | go_num, ⟨a2, Y2.length, c2, Y2, rfl, rfl, Lib.hid (by rw [HT2.out, HE2.out]), HO7, HOR⟩, HG7⟩
                  case measure => simp [intOf]; omega
              · have jn1 : ¬ ((j : Int) < KF.length) := by omega
                have HKJ : Hid (KF[j]? = none) := Lib.hid (List.getElem?_eq_none (by omega))
                rw [HKJ.out, if_neg (fun q => by cases q.2.2), List.append_nil] at HT2
                have HS17 : Hid (∀ w', Below W7.heap.size W7 w' → (w'.cell? ⟨W1.heap.size, 0, none⟩ = some (.int .i64 i) ∧ w'.cell? ⟨W1.heap.size, 1, none⟩ = some (.int .i64 j8)) ∧ (w'.cell? ⟨ub, uo + i, none⟩ = some (.slice (some ⟨tb, tof, none⟩) NF uc0) ∧ w'.cell? ⟨tb, tof + j8 * 2 + 1, none⟩ = some (.slice ta0 KF.length tc0))) := Lib.hid (fun w' hb => by
                  obtain ⟨x0, x1, _⟩ := blk4 (blk_below HX97.out hb)
                  have hb2 := b_call HB7.out hb
                  exact ⟨⟨x0, x1⟩, HFC.out w' hb2⟩)
                refine wp_region_held_drew (S := fun w' => (w'.cell? ⟨W1.heap.size, 0, none⟩ = some (.int .i64 i) ∧ w'.cell? ⟨W1.heap.size, 1, none⟩ = some (.int .i64 j8)) ∧ (w'.cell? ⟨ub, uo + i, none⟩ = some (.slice (some ⟨tb, tof, none⟩) NF uc0) ∧ w'.cell? ⟨tb, tof + j8 * 2 + 1, none⟩ = some (.slice ta0 KF.length tc0))) (by kernel_rfl) (HS17.out _ (b_drew (Below.refl _ _))) (fun hHeld => ?_)
                refine atI 0 ?_
                iterate 17 (refine takeN (v := ?_) rfl (by rfl) ?_ hHeld ?_; rotate_left; (focus (intro w hSw; (try dsimp only at hSw); go_simp; try (with_reducible rfl))); (try simp only [Act.put, Nat.reduceAdd, List.getElem_toArray, List.getElem_cons_succ, List.getElem_cons_zero, List.setIfInBounds_toArray, List.set_cons_zero, List.set_cons_succ]))
                refine atIo ?_
                (refine wpAnyH_take (i := 17) (v := _) rfl (by kernel_rfl) (by kernel_rfl) (by kernel_rfl) (fun _ _ _ h => h) (Or.inr ⟨by rfl, rfl⟩) hHeld ?_; (try simp only [Act.put, List.getElem_toArray, List.getElem_cons_succ, List.getElem_cons_zero, List.setIfInBounds_toArray, List.set_cons_zero, List.set_cons_succ]))
                (refine wpAnyH_take (i := 18) (v := _) rfl (by kernel_rfl) (by kernel_rfl) (by kernel_rfl) (fun _ _ _ h => h) (Or.inr ⟨by rfl, rfl⟩) hHeld ?_; (try simp only [Act.put, List.getElem_toArray, List.getElem_cons_succ, List.getElem_cons_zero, List.setIfInBounds_toArray, List.set_cons_zero, List.set_cons_succ]))
                (refine wpAnyH_take (i := 19) (v := _) rfl (by kernel_rfl) (by kernel_rfl) (by kernel_rfl) (fun _ _ _ h => h) (Or.inr ⟨by rfl, rfl⟩) hHeld ?_; (try simp only [Act.put, List.getElem_toArray, List.getElem_cons_succ, List.getElem_cons_zero, List.setIfInBounds_toArray, List.set_cons_zero, List.set_cons_succ]))
                (refine wpAnyH_take (i := 20) (v := _) rfl (by kernel_rfl) (by kernel_rfl) (by kernel_rfl) (fun _ _ _ h => h) (Or.inr ⟨by rfl, rfl⟩) hHeld ?_; (try simp only [Act.put, List.getElem_toArray, List.getElem_cons_succ, List.getElem_cons_zero, List.setIfInBounds_toArray, List.set_cons_zero, List.set_cons_succ]))
                (refine wpAnyH_take (i := 21) (v := _) rfl (by kernel_rfl) (by kernel_rfl) (by kernel_rfl) (fun _ _ _ h => h) (Or.inr ⟨by rfl, rfl⟩) hHeld ?_; (try simp only [Act.put, List.getElem_toArray, List.getElem_cons_succ, List.getElem_cons_zero, List.setIfInBounds_toArray, List.set_cons_zero, List.set_cons_succ]))
                (refine wpAnyH_take (i := 22) (v := _) rfl (by kernel_rfl) (by kernel_rfl) (by kernel_rfl) (fun _ _ _ h => h) (Or.inr ⟨by rfl, rfl⟩) hHeld ?_; (try simp only [Act.put, List.getElem_toArray, List.getElem_cons_succ, List.getElem_cons_zero, List.setIfInBounds_toArray, List.set_cons_zero, List.set_cons_succ]))
                (refine wpAnyH_take (i := 23) (v := _) rfl (by kernel_rfl) (by kernel_rfl) (by kernel_rfl) (fun _ _ _ h => h) (Or.inr ⟨by rfl, rfl⟩) hHeld ?_; (try simp only [Act.put, List.getElem_toArray, List.getElem_cons_succ, List.getElem_cons_zero, List.setIfInBounds_toArray, List.set_cons_zero, List.set_cons_succ]))
                (refine wpAnyH_take (i := 24) (v := _) rfl (by kernel_rfl) (by kernel_rfl) (by kernel_rfl) (fun _ _ _ h => h) (Or.inr ⟨by rfl, rfl⟩) hHeld ?_; (try simp only [Act.put, List.getElem_toArray, List.getElem_cons_succ, List.getElem_cons_zero, List.setIfInBounds_toArray, List.set_cons_zero, List.set_cons_succ]))
                (refine wpAnyH_take (i := 25) (v := _) rfl (by kernel_rfl) (by kernel_rfl) (by kernel_rfl) (fun _ _ _ h => h) (Or.inr ⟨by rfl, rfl⟩) hHeld ?_; (try simp only [Act.put, List.getElem_toArray, List.getElem_cons_succ, List.getElem_cons_zero, List.setIfInBounds_toArray, List.set_cons_zero, List.set_cons_succ]))
                (refine wpAnyH_take (i := 26) (v := _) rfl (by kernel_rfl) (by kernel_rfl) (by kernel_rfl) (fun _ _ _ h => h) (Or.inr ⟨by rfl, rfl⟩) hHeld ?_; (try simp only [Act.put, List.getElem_toArray, List.getElem_cons_succ, List.getElem_cons_zero, List.setIfInBounds_toArray, List.set_cons_zero, List.set_cons_succ]))
                (refine wpAnyH_take (i := 27) (v := _) rfl (by kernel_rfl) (by kernel_rfl) (by kernel_rfl) (fun _ _ _ h => h) (Or.inr ⟨by rfl, rfl⟩) hHeld ?_; (try simp only [Act.put, List.getElem_toArray, List.getElem_cons_succ, List.getElem_cons_zero, List.setIfInBounds_toArray, List.set_cons_zero, List.set_cons_succ]))
                (refine wpAnyH_take (i := 28) (v := _) rfl (by kernel_rfl) (by kernel_rfl) (by kernel_rfl) (fun _ _ _ h => h) (Or.inr ⟨by rfl, rfl⟩) hHeld ?_; (try simp only [Act.put, List.getElem_toArray, List.getElem_cons_succ, List.getElem_cons_zero, List.setIfInBounds_toArray, List.set_cons_zero, List.set_cons_succ]))
                (refine wpAnyH_take (i := 29) (v := _) rfl (by kernel_rfl) (by kernel_rfl) (by kernel_rfl) (fun _ _ _ h => h) (Or.inr ⟨by rfl, rfl⟩) hHeld ?_; (try simp only [Act.put, List.getElem_toArray, List.getElem_cons_succ, List.getElem_cons_zero, List.setIfInBounds_toArray, List.set_cons_zero, List.set_cons_succ]))
                (refine wpAnyH_take (i := 30) (v := _) rfl (by kernel_rfl) (by kernel_rfl) (by kernel_rfl) (fun _ _ _ h => h) (Or.inr ⟨by rfl, rfl⟩) hHeld ?_; (try simp only [Act.put, List.getElem_toArray, List.getElem_cons_succ, List.getElem_cons_zero, List.setIfInBounds_toArray, List.set_cons_zero, List.set_cons_succ]))
                refine atI 31 ?_
                iterate 2 (refine takeN (v := ?_) rfl (by rfl) ?_ hHeld ?_; rotate_left; (focus (intro w hSw; (try dsimp only at hSw); go_simp; try (with_reducible rfl))); (try simp only [Act.put, Nat.reduceAdd, List.getElem_toArray, List.getElem_cons_succ, List.getElem_cons_zero, List.setIfInBounds_toArray, List.set_cons_zero, List.set_cons_succ]))
                refine atIo ?_
                refine wpAnyH_done (by kernel_rfl) ?_ _
                go_upto_region 18 with fail
                refine wp_named ?_
                intro W9 hW9
                replace HX7 : Hid (Blk W9 W6.heap.size [.int .i64 xk, .int .u64 xb]) := Lib.hid (by rw [hW9]; exact blk_drew HX7.out)
                replace HO7 := Lib.hid (show OwnR intE 3 W9 w.heap.size (.slice a2 Y2.length c2) Y2 by rw [hW9]; exact ownR_below HO7.out (b_drew (Below.refl _ _)))
                replace HG7 := Lib.hid (show GrowX W5 W9 (fun j => (Value.slice a' Y.length c').ownBlock = some j) by rw [hW9]; exact gx_drew HG7.out)
                replace hbs : w.heap.size ≤ W9.heap.size := by rw [hW9]; exact hbs
                clear hW9
                obtain ⟨z0, z1, _⟩ := blk2 HX7.out
                have zz := HX7.out.1
                by_cases hk2 : xk = 2
                · subst hk2
                  by_cases hp2 : 0 < xb
                  · go_wp2_with fail
                    go_roundw
                    case rel => exact ⟨j + 1, by omega, by first | rfl | go_num, ⟨a2, Y2.length, c2, Y2, rfl, rfl, Lib.hid (by rw [HT2.out, HE2.out]), HO7, HOR⟩, HG7⟩
                    case measure => simp [intOf]; omega
                  · go_wp2_with fail
                    go_roundw
                    case rel => exact ⟨j + 1, by omega, by first | rfl | go_num, ⟨a2, Y2.length, c2, Y2, rfl, rfl, Lib.hid (by rw [HT2.out, HE2.out]), HO7, HOR⟩, HG7⟩
                    case measure => simp [intOf]; omega
                · have hxb : (xk == 2) = false := beq_false_of_ne hk2
                  clear hk2
                  go_wp2_with fail
                  go_roundw
                  case rel => exact ⟨j + 1, by omega, by first | rfl | go_num, ⟨a2, Y2.length, c2, Y2, rfl, rfl, Lib.hid (by rw [HT2.out, HE2.out]), HO7, HOR⟩, HG7⟩
                  case measure => simp [intOf]; omega
            · have j1 : ¬ ((j : Int) < stk.length) := by omega
              have HF9 : Hid (Y2 = Y ++ (refW loc KS ++ refW stk KF)) := Lib.hid (by rw [HE2.out, List.take_of_length_le (by omega), List.append_assoc])
              go_wp2_with fail
              go_roundw
              case rel => exact ⟨k + 1, by omega, by first | rfl | go_num, ⟨a2, Y2.length, c2, Y2, rfl, rfl, Lib.hid (by rw [HT.out, HF9.out, HEQ.out, HONE.out]), HO6⟩, HB6⟩
              case measure => simp [intOf]; omega
    · have k1 : ¬ ((k : Int) < L.length) := by omega
      have HFI : Hid (Y = docAll P Fx L) := Lib.hid (by rw [HEQ.out, List.take_of_length_le (by omega)])
      go_wp2_with fail
      go_ret
      show FRefsEnd w (docAll P Fx L) (.returned (.slice a' Y.length c')) W1
      rw [← HFI.out]
      exact ⟨a', c', rfl, readR_I (ownR_read HOW.out), HB.out⟩
end Go.Proofs.Ytdmidnmciaediaa
