/- MapsReach, walked: whatever the program, the facts, the place and the number, the answer is true. Conditions: the program and the facts read as lists, none of them too long to be written down. -/
import Derived.Test.YtdmidnmciaediaaZMapF
namespace Go.Proofs.Ytdmidnmciaediaa
open Go.RowKit
set_option linter.unusedVariables false
set_option linter.unusedSimpArgs false
attribute [local go_sem] over_cell over_frozen
theorem reachM_nat (P : PrM) (Fx : FxM) (i k : Nat) : reachM P Fx i k = (hP P Fx i k : Int) := by
  unfold reachM
  split
  · rfl
  · rename_i q
    rw [hP_no (by simpa using q)]; rfl
set_option maxRecDepth 100000 in
set_option maxHeartbeats 8000000 in
theorem mapsReach_any (p : PrV) (P : PrM) (v : Value) (Fx : FxM) (own : Bool) (f a op : Int) (w : World) (h : ReadP w p P) (hf : FacR w v Fx) (hk : ∀ i j, (factM Fx i j).2.length ≤ 17592186044415) : Calls Try.prog 12 #[aggP p, v, .bool own, .int .i64 f, .int .i64 a, .int .i64 op] w fun e w' => e = .returned (.bool true) ∧ Below w.heap.size w w' := by
  have H := Lib.hid h
  obtain ⟨C, hC⟩ : ∃ C, C = cutP P := ⟨_, rfl⟩
  have HC := Lib.hid hC
  have HSM : Hid (SmallP C) := by show SmallP C; rw [hC]; exact small_cut P
  have HF := Lib.hid hf
  obtain ⟨F2, hF2⟩ : ∃ F2, F2 = cutX Fx := ⟨_, rfl⟩
  have HOK2 : Hid (FxOk C F2) := Lib.hid (by rw [hF2]; exact fxOk_cut hk)
  have HF2 := Lib.hid hF2
  obtain ⟨va, vc, rfl, m2, m3⟩ := facR_form hf
  obtain ⟨u, ⟨ga, gn, gc⟩, m, ⟨fa, fn, fc⟩⟩ := p
  clear h hC hf hk m2 m3 hF2
  unfold aggP Sl.v
  simp only
  have HB0 := Lib.hid (b_alloc (Below.refl w.heap.size w) (.cells #[.bool u, .slice ga gn gc, .int .i64 m, .slice fa fn fc] 25))
  have HX0 := Lib.hid (blk_new w #[.bool u, .slice ga gn gc, .int .i64 m, .slice fa fn fc] 25)
  go_enter Try.func12, Try.ntmps12
  go_wp2_with fail
  refine (cut_made ⟨u, ⟨ga, gn, gc⟩, m, ⟨fa, fn, fc⟩⟩ P w _ H.out HB0.out).mono ?_
  rintro e w1 ⟨q, rfl, hcm, hb1⟩
  rw [← HC.out] at hcm
  obtain ⟨qu, ⟨qa, qn, qc⟩, qm, ⟨ra, rn, rc⟩⟩ := q
  have BX1 := blk_below HX0.out hb1
  have HB1 := Lib.hid (b_call HB0.out hb1)
  have HCM := Lib.hid hcm
  have hl1 := BX1.1
  have HX1 := Lib.hid BX1
  obtain ⟨c0, c1, c2, c3, cf⟩ := blk4 BX1
  clear hcm hb1 BX1
  unfold aggP Sl.v
  simp only
  go_upto_region 2 with fail
  refine wp_named ?_
  intro W hW
  have BW : Blk W w.heap.size [.bool qu, .slice qa qn qc, .int .i64 qm, .slice ra rn rc] := by rw [hW]; exact blk_set (blk_set (blk_set (blk_set HX1.out 0 _) 1 _) 2 _) 3 _
  have GW := gb_set (gb_set (gb_set (gb_set (gb_refl w1 (some w.heap.size)) 0 none (.bool qu)) 1 none (.slice qa qn qc)) 2 none (.int .i64 qm)) 3 none (.slice ra rn rc)
  rw [← hW] at GW
  have hBW : Below w.heap.size w W := b_grown HB1.out GW (Nat.le_refl _)
  have RW : ReadP W ⟨qu, ⟨qa, qn, qc⟩, qm, ⟨ra, rn, rc⟩⟩ C := cutMade_read (cutMade_grown HCM.out GW (by simp)) hBW
  obtain ⟨n1, n2, n3⟩ := fn_len RW
  simp only at n1 n2 n3
  subst n1
  have HR := Lib.hid RW
  have HBW := Lib.hid hBW
  have HK : Hid (∀ w', Below W.heap.size W w' → (w'.cell? ⟨w.heap.size, 0, none⟩ = some (.bool qu) ∧ w'.cell? ⟨w.heap.size, 1, none⟩ = some (.slice qa qn qc) ∧ w'.cell? ⟨w.heap.size, 2, none⟩ = some (.int .i64 qm) ∧ w'.cell? ⟨w.heap.size, 3, none⟩ = some (.slice ra C.fs.length rc)) ∧ w.heap.size < w'.heap.size) := Lib.hid (fun w' hb => by
    obtain ⟨y0, y1, y2, y3, _⟩ := blk4 (blk_below BW hb); exact ⟨⟨y0, y1, y2, y3⟩, (blk_below BW hb).1⟩)
  clear hW GW hBW RW c0 c1 c2 c3 cf BW HX1 hl1 HCM HB1
  have HCF := Lib.hid (cut27_any (.slice va Fx.length vc) Fx W (facR_below HF.out HBW.out))
  rw [← HF2.out] at HCF
  go_wp2_with fail
  refine HCF.out.mono ?_
  rintro e w2 ⟨a2, c2, rfl, hf2, hb2⟩
  have HFR2 := Lib.hid hf2; have HB2 := Lib.hid hb2
  clear hf2 hb2 HCF
  go_upto_if 22 with fail
  go_cut [1] (fun x wx => ∃ (F3 : FxM) (a3 : Option Addr) (c3 : Nat), x = .slice a3 F3.length c3 ∧ Hid (FacR wx (.slice a3 F3.length c3) F3) ∧ Hid (FxOk C F3) ∧ Hid (Below W.heap.size W wx))
  case first =>
    cases own
    · go_wp2_with fail
      go_meet
      case rel => exact ⟨F2, a2, c2, rfl, HFR2, HOK2, HB2⟩
    · obtain ⟨⟨c0, c1, c2', c3⟩, cz⟩ := HK.out w2 HB2.out
      have HCK := Lib.hid (rcheck_fx ⟨qu, ⟨qa, qn, qc⟩, qm, ⟨ra, C.fs.length, rc⟩⟩ C w2 (readP_below HR.out HB2.out) HSM.out)
      have HOK3 := Lib.hid (fxOk_check HSM.out)
      obtain ⟨F3, hF3⟩ : ∃ F3, F3 = factsOf (checkM C) := ⟨_, rfl⟩
      rw [← hF3] at HCK HOK3
      clear hF3
      go_wp2_with fail
      refine HCK.out.mono ?_
      rintro e w3 ⟨a3, c3, x, y, z, rfl, hf3, _, _, hb3⟩
      have HFR3 := Lib.hid hf3
      have HB3 := Lib.hid (b_call HB2.out hb3)
      clear hf3 hb3
      go_wp2_with fail
      go_meet
      case rel => exact ⟨F3, a3, c3, rfl, HFR3, HOK3, HB3⟩
  case rest =>
  obtain ⟨F3, a3, c3, rfl, HF3, HOK, HB3⟩ := hcut
  obtain ⟨W3, hW3⟩ : ∃ x, x = wc := ⟨_, rfl⟩
  subst hW3
  obtain ⟨⟨c0, c1, c2', c3'⟩, cz⟩ := HK.out W3 HB3.out
  have hn17 : (C.fs.length : Int) ≤ 17 := by have := HSM.out.f; omega
  have HML : Hid (∀ i, i ≤ C.fs.length → mxP C F3 i ≤ 100) := Lib.hid (fun i hi => mxP_le HSM.out F3 i hi)
  go_wp2_with fail
  clear c0 c1 c2' c3' cz
  go_loopw [13, 31] (fun mv iv wr => ∃ k : Nat, k ≤ C.fs.length ∧ iv = .int .i64 k ∧ mv = .int .i64 (mxP C F3 k : Nat) ∧ Hid (Below W3.heap.size W3 wr)) (fun _ iv _ => C.fs.length - (intOf iv).toNat)
  case atStart => exact ⟨0, Nat.zero_le _, rfl, rfl, Lib.hid (Below.refl _ _)⟩
  case round =>
    obtain ⟨W4, hW4⟩ : ∃ x, x = wr := ⟨_, rfl⟩
    subst hW4
    obtain ⟨k, hk, rfl, rfl, HB4⟩ := hrel
    have k0 : (0 : Int) ≤ k := by omega
    have HBW4 := Lib.hid (b_call HB3.out HB4.out)
    by_cases hlt : k < C.fs.length
    · have k1 : (k : Int) < C.fs.length := by omega
      have kc : (k : Int) < rc := by omega
      obtain ⟨b2, o2, ea, hb2, ⟨⟨pa, pn, pc⟩, ⟨la, ln, lc⟩, r, ⟨ca, cn, cc⟩⟩, hd, e0, e1, e2, e3⟩ := fn_at HR.out hlt
      have hvr := hd.r
      simp only at ea e0 e1 e2 e3 hvr
      rw [← hvr] at e2
      subst ea
      have HCOD : codeN C k = C.fs[k].code := by unfold codeN; rw [getD_at hlt]
      have hD : ReadR inE W (.slice ca cn cc) (codeN C k) := by rw [HCOD]; exact hd.c
      obtain ⟨_, cap9, ec, hcc1, hcc2⟩ := readR_len hD
      injection ec with ec3 ec4 ec5
      clear ec3
      have hsm := (HSM.out.a _ (List.getElem_mem hlt)).c
      rw [← HCOD] at hsm
      obtain ⟨N, hN⟩ : ∃ N, N = (codeN C k).length := ⟨_, rfl⟩
      rw [ec4, ← hN] at e3
      have n9 : (N : Int) ≤ 100 := by omega
      have hbc := (bcell HBW4.out).1
      have dz := Nat.lt_of_lt_of_le hb2 HBW4.out.size
      have d0 := (hbc _ _ hb2).trans e0
      have d1 := (hbc _ _ hb2).trans e1
      have d2 := (hbc _ _ hb2).trans e2
      have d3 := (hbc _ _ hb2).trans e3
      have HMN : Hid (mxP C F3 (k + 1) = max (mxP C F3 k) (mxF C F3 k N)) := Lib.hid (by rw [hN]; rfl)
      have hmk := HML.out k hk
      generalize mxP C F3 k = M at *
      clear hvr hd e0 e1 e2 e3 hb2 HCOD hD hcc1 hcc2 ec4 ec5 hsm hN hbc
      go_upto_region 9 with fail
      refine wp_named ?_
      intro W5 hW5
      have S5 : Blk W5 W4.heap.size [.slice pa pn pc, .slice la ln lc, .int .i64 r, .slice ca N cc] ∧ Below W4.heap.size W4 W5 := by
        first
        | (rw [hW5]; exact ⟨blk_new _ _ _, b_alloc (Below.refl _ _) _⟩)
        | exact m_store4 rfl hW5
      have HB5 := Lib.hid (b_call HB4.out S5.2)
      obtain ⟨x0, x1, x2, x3, _⟩ := blk4 S5.1
      have xz := S5.1.1
      clear hW5 S5 d0 d1 d2 d3 dz
      go_wp2_with fail
      clear x0 x1 x2 x3 xz
      go_loopw [13, 39] (fun mv iv wr => ∃ q mm : Nat, q ≤ N ∧ iv = .int .i64 q ∧ mv = .int .i64 mm ∧ Hid (mm = max M (mxF C F3 k q)) ∧ Hid (Below W3.heap.size W3 wr)) (fun _ iv _ => N - (intOf iv).toNat)
      case atStart => exact ⟨0, M, Nat.zero_le _, rfl, rfl, Lib.hid (by simp [mxF]), HB5⟩
      case round =>
        obtain ⟨W6, hW6⟩ : ∃ x, x = wr := ⟨_, rfl⟩
        subst hW6
        obtain ⟨q, mm, hq, rfl, rfl, HMM, HB6⟩ := hrel
        have q0 : (0 : Int) ≤ q := by omega
        by_cases hql : q < N
        · have q1 : (q : Int) < N := by omega
          have HBW6 := Lib.hid (b_call HB3.out HB6.out)
          have HRR := Lib.hid (rreach_any ⟨qu, ⟨qa, qn, qc⟩, qm, ⟨some ⟨b2, o2, none⟩, C.fs.length, rc⟩⟩ C (.slice a3 F3.length c3) F3 k q W6 (readP_below HR.out HBW6.out) HSM.out (facR_below HF3.out HB6.out))
          rw [reachM_nat] at HRR
          have HS : Hid (mxF C F3 k (q + 1) = max (mxF C F3 k q) (hP C F3 k q)) := Lib.hid rfl
          generalize hP C F3 k q = hn at *
          obtain ⟨⟨c0, c1, c2', c3'⟩, cz⟩ := HK.out W6 HBW6.out
          go_wp2_with fail
          refine HRR.out.mono ?_
          rintro e w7 ⟨rfl, hb7⟩
          have HB7 := Lib.hid (b_call HB6.out hb7)
          clear hb7 c0 c1 c2' c3' cz
          by_cases hgt : mm < hn
          · have g1 : (mm : Int) < hn := by omega
            go_wp2_with fail
            go_roundw
            case rel => exact ⟨q + 1, hn, by omega, by first | rfl | go_num, rfl, Lib.hid (by rw [HS.out]; have := HMM.out; omega), HB7⟩
            case measure => simp [intOf]; omega
          · have g1 : ¬ ((mm : Int) < hn) := by omega
            go_wp2_with fail
            go_roundw
            case rel => exact ⟨q + 1, mm, by omega, by first | rfl | go_num, rfl, Lib.hid (by rw [HS.out]; have := HMM.out; omega), HB7⟩
            case measure => simp [intOf]; omega
        · have q1 : ¬ ((q : Int) < N) := by omega
          have HE : Hid (mm = mxP C F3 (k + 1)) := Lib.hid (by rw [HMN.out, HMM.out, show q = N by omega])
          go_wp2_with fail
          go_roundw
          case rel => exact ⟨k + 1, by omega, by first | rfl | go_num, by rw [HE.out], HB6⟩
          case measure => simp [intOf]; omega
    · have k1 : ¬ ((k : Int) < C.fs.length) := by omega
      obtain rfl : k = C.fs.length := by omega
      obtain ⟨MA, hMA⟩ : ∃ MA, MA = mxP C F3 C.fs.length := ⟨_, rfl⟩
      have hMA2 : mxAll C F3 = MA := by rw [hMA]; rfl
      have HMA := Lib.hid hMA2
      rw [← hMA]
      obtain ⟨RM, hRM⟩ : ∃ RM, RM = reachM C F3 f a := ⟨_, rfl⟩
      have HRM := Lib.hid hRM
      obtain ⟨SB, hSB⟩ : ∃ SB, SB = safeB op := ⟨_, rfl⟩
      have HSB := Lib.hid hSB
      have HK4 : Hid (∀ w', Below W4.heap.size W4 w' → (w'.cell? ⟨w.heap.size, 0, none⟩ = some (.bool qu) ∧ w'.cell? ⟨w.heap.size, 1, none⟩ = some (.slice qa qn qc) ∧ w'.cell? ⟨w.heap.size, 2, none⟩ = some (.int .i64 qm) ∧ w'.cell? ⟨w.heap.size, 3, none⟩ = some (.slice ra C.fs.length rc))) := Lib.hid (fun w' hb => (HK.out w' (b_call HBW4.out hb)).1)
      have HR4 := Lib.hid (readP_below HR.out HBW4.out)
      have HF4 := Lib.hid (facR_below HF3.out HB4.out)
      clear hMA hMA2 hRM hSB hk hlt k0 k1
      go_upto_region 17 with fail
      refine wp_region_held_drew (S := fun w' => w'.cell? ⟨w.heap.size, 0, none⟩ = some (.bool qu) ∧ w'.cell? ⟨w.heap.size, 1, none⟩ = some (.slice qa qn qc) ∧ w'.cell? ⟨w.heap.size, 2, none⟩ = some (.int .i64 qm) ∧ w'.cell? ⟨w.heap.size, 3, none⟩ = some (.slice ra C.fs.length rc)) (by kernel_rfl) (HK4.out _ (b_drew (Below.refl _ _))) (fun hHeld => ?_)
      (refine wpAnyH_take (i := 0) (v := ?_) rfl (by kernel_rfl) (by kernel_rfl) (by kernel_rfl) (fun _ _ _ h => h) (Or.inl ⟨by rfl, ?_⟩) hHeld ?_; rotate_left; (focus (intro w hSw; (try dsimp only at hSw); go_simp; try (with_reducible rfl))); (try simp only [Act.put, List.getElem_toArray, List.getElem_cons_succ, List.getElem_cons_zero, List.setIfInBounds_toArray, List.set_cons_zero, List.set_cons_succ]))
      (refine wpAnyH_take (i := 2) (v := ?_) rfl (by kernel_rfl) (by kernel_rfl) (by kernel_rfl) (fun _ _ _ h => h) (Or.inl ⟨by rfl, ?_⟩) hHeld ?_; rotate_left; (focus (intro w hSw; (try dsimp only at hSw); go_simp; try (with_reducible rfl))); (try simp only [Act.put, List.getElem_toArray, List.getElem_cons_succ, List.getElem_cons_zero, List.setIfInBounds_toArray, List.set_cons_zero, List.set_cons_succ]))
      refine atI 4 ?_
      iterate 2 (refine takeN (v := ?_) rfl (by rfl) ?_ hHeld ?_; rotate_left; (focus (intro w hSw; (try dsimp only at hSw); go_simp; try (with_reducible rfl))); (try simp only [Act.put, Nat.reduceAdd, List.getElem_toArray, List.getElem_cons_succ, List.getElem_cons_zero, List.setIfInBounds_toArray, List.set_cons_zero, List.set_cons_succ]))
      refine atIo ?_
      refine atI 7 ?_
      iterate 4 (refine takeN (v := ?_) rfl (by rfl) ?_ hHeld ?_; rotate_left; (focus (intro w hSw; (try dsimp only at hSw); go_simp; try (with_reducible rfl))); (try simp only [Act.put, Nat.reduceAdd, List.getElem_toArray, List.getElem_cons_succ, List.getElem_cons_zero, List.setIfInBounds_toArray, List.set_cons_zero, List.set_cons_succ]))
      refine atIo ?_
      refine wpAnyH_ready (rs := [1]) (by kernel_rfl) (by simp) (AllReadyH.cons rfl (fun K hK => ?_) AllReadyH.nil)
      go_simp
      refine (ours25_any ⟨qu, ⟨qa, qn, qc⟩, qm, ⟨ra, C.fs.length, rc⟩⟩ C _ (readP_below HR4.out (b_drew (Below.refl _ _))) HSM.out).mono ?_
      rintro e u1 ⟨o1, rfl, ho1, hb1⟩
      have HO1 := Lib.hid ho1
      have HU1 := Lib.hid (b_call (b_drew (Below.refl W4.heap.size W4)) hb1)
      clear ho1 hb1
      refine hK.out _ _ (HK4.out _ HU1.out) (fun hHeld => ?_)
      clear hK K
      (try simp only [Act.put, List.getElem_toArray, List.getElem_cons_succ, List.getElem_cons_zero, List.setIfInBounds_toArray, List.set_cons_zero, List.set_cons_succ])
      refine wpAnyH_ready (rs := [3]) (by kernel_rfl) (by simp) (AllReadyH.cons rfl (fun K hK => ?_) AllReadyH.nil)
      go_simp
      refine (ours27_any (.slice a3 F3.length c3) F3 u1 (facR_below HF4.out HU1.out) HOK.out.f HOK.out.c).mono ?_
      rintro e u2 ⟨a5, c5, rfl, hf5, hb2⟩
      have HFA := Lib.hid hf5
      have HO2 := Lib.hid (readP_below HO1.out hb2)
      have HU2 := Lib.hid (b_call HU1.out hb2)
      clear hf5 hb2
      refine hK.out _ _ (HK4.out _ HU2.out) (fun hHeld => ?_)
      clear hK K
      (try simp only [Act.put, List.getElem_toArray, List.getElem_cons_succ, List.getElem_cons_zero, List.setIfInBounds_toArray, List.set_cons_zero, List.set_cons_succ])
      refine wpAnyH_ready (rs := [6]) (by kernel_rfl) (by simp) (AllReadyH.cons rfl (fun K hK => ?_) AllReadyH.nil)
      go_simp
      have HM1 := Lib.hid (mreach_any o1 C (.slice a5 F3.length c5) F3 f a u2 HO2.out HSM.out HFA.out)
      rw [← HRM.out] at HM1
      refine HM1.out.mono ?_
      rintro e u3 ⟨rfl, hb3⟩
      have HU3 := Lib.hid (b_call HU2.out hb3)
      clear hb3
      refine hK.out _ _ (HK4.out _ HU3.out) (fun hHeld => ?_)
      clear hK K
      (try simp only [Act.put, List.getElem_toArray, List.getElem_cons_succ, List.getElem_cons_zero, List.setIfInBounds_toArray, List.set_cons_zero, List.set_cons_succ])
      refine wpAnyH_ready (rs := [11]) (by kernel_rfl) (by simp) (AllReadyH.cons rfl (fun K hK => ?_) AllReadyH.nil)
      go_simp
      have HM2 := Lib.hid (rreach_any ⟨qu, ⟨qa, qn, qc⟩, qm, ⟨ra, C.fs.length, rc⟩⟩ C (.slice a3 F3.length c3) F3 f a u3 (readP_below HR4.out HU3.out) HSM.out (facR_below HF4.out HU3.out))
      rw [← HRM.out] at HM2
      refine HM2.out.mono ?_
      rintro e u4 ⟨rfl, hb4⟩
      have HU4 := Lib.hid (b_call HU3.out hb4)
      clear hb4
      refine hK.out _ _ (HK4.out _ HU4.out) (fun hHeld => ?_)
      clear hK K
      (try simp only [Act.put, List.getElem_toArray, List.getElem_cons_succ, List.getElem_cons_zero, List.setIfInBounds_toArray, List.set_cons_zero, List.set_cons_succ])
      refine atI 12 ?_
      iterate 3 (refine takeN (v := ?_) rfl (by rfl) ?_ hHeld ?_; rotate_left; (focus (intro w hSw; (try dsimp only at hSw); go_simp; try (with_reducible rfl))); (try simp only [Act.put, Nat.reduceAdd, List.getElem_toArray, List.getElem_cons_succ, List.getElem_cons_zero, List.setIfInBounds_toArray, List.set_cons_zero, List.set_cons_succ]))
      refine atIo ?_
      (refine wpAnyH_take (i := 16) (v := ?_) rfl (by kernel_rfl) (by kernel_rfl) (by kernel_rfl) (fun _ _ _ h => h) (Or.inl ⟨by rfl, ?_⟩) hHeld ?_; rotate_left; (focus (intro w hSw; (try dsimp only at hSw); go_simp; try (with_reducible rfl))); (try simp only [Act.put, List.getElem_toArray, List.getElem_cons_succ, List.getElem_cons_zero, List.setIfInBounds_toArray, List.set_cons_zero, List.set_cons_succ]))
      (refine wpAnyH_take (i := 19) (v := ?_) rfl (by kernel_rfl) (by kernel_rfl) (by kernel_rfl) (fun _ _ _ h => h) (Or.inl ⟨by rfl, ?_⟩) hHeld ?_; rotate_left; (focus (intro w hSw; (try dsimp only at hSw); go_simp; try (with_reducible rfl))); (try simp only [Act.put, List.getElem_toArray, List.getElem_cons_succ, List.getElem_cons_zero, List.setIfInBounds_toArray, List.set_cons_zero, List.set_cons_succ]))
      refine wpAnyH_ready (rs := [15]) (by kernel_rfl) (by simp) (AllReadyH.cons rfl (fun K hK => ?_) AllReadyH.nil)
      go_simp
      refine (ours25_any ⟨qu, ⟨qa, qn, qc⟩, qm, ⟨ra, C.fs.length, rc⟩⟩ C _ (readP_below HR4.out HU4.out) HSM.out).mono ?_
      rintro e u5 ⟨o5, rfl, ho5, hb5⟩
      have HO5 := Lib.hid ho5
      have HU5 := Lib.hid (b_call HU4.out hb5)
      clear ho5 hb5
      refine hK.out _ _ (HK4.out _ HU5.out) (fun hHeld => ?_)
      clear hK K
      (try simp only [Act.put, List.getElem_toArray, List.getElem_cons_succ, List.getElem_cons_zero, List.setIfInBounds_toArray, List.set_cons_zero, List.set_cons_succ])
      refine wpAnyH_ready (rs := [17]) (by kernel_rfl) (by simp) (AllReadyH.cons rfl (fun K hK => ?_) AllReadyH.nil)
      go_simp
      refine (ours27_any (.slice a3 F3.length c3) F3 u5 (facR_below HF4.out HU5.out) HOK.out.f HOK.out.c).mono ?_
      rintro e u6 ⟨a6, c6, rfl, hf6, hb6⟩
      have HFB := Lib.hid hf6
      have HO6 := Lib.hid (readP_below HO5.out hb6)
      have HU6 := Lib.hid (b_call HU5.out hb6)
      clear hf6 hb6
      refine hK.out _ _ (HK4.out _ HU6.out) (fun hHeld => ?_)
      clear hK K
      (try simp only [Act.put, List.getElem_toArray, List.getElem_cons_succ, List.getElem_cons_zero, List.setIfInBounds_toArray, List.set_cons_zero, List.set_cons_succ])
      refine wpAnyH_ready (rs := [18]) (by kernel_rfl) (by simp) (AllReadyH.cons rfl (fun K hK => ?_) AllReadyH.nil)
      go_simp
      have HM3 := Lib.hid (mmost_any o5 C (.slice a6 F3.length c6) F3 u6 HO6.out HSM.out HFB.out)
      rw [HMA.out] at HM3
      refine HM3.out.mono ?_
      rintro e u7 ⟨rfl, hb7⟩
      have HU7 := Lib.hid (b_call HU6.out hb7)
      clear hb7
      refine hK.out _ _ (HK4.out _ HU7.out) (fun hHeld => ?_)
      clear hK K
      (try simp only [Act.put, List.getElem_toArray, List.getElem_cons_succ, List.getElem_cons_zero, List.setIfInBounds_toArray, List.set_cons_zero, List.set_cons_succ])
      refine atI 20 ?_
      iterate 4 (refine takeN (v := ?_) rfl (by rfl) ?_ hHeld ?_; rotate_left; (focus (intro w hSw; (try dsimp only at hSw); go_simp; try (with_reducible rfl))); (try simp only [Act.put, Nat.reduceAdd, List.getElem_toArray, List.getElem_cons_succ, List.getElem_cons_zero, List.setIfInBounds_toArray, List.set_cons_zero, List.set_cons_succ]))
      refine atIo ?_
      (refine wpAnyH_take (i := 25) (v := ?_) rfl (by kernel_rfl) (by kernel_rfl) (by kernel_rfl) (fun _ _ _ h => h) (Or.inl ⟨by rfl, ?_⟩) hHeld ?_; rotate_left; (focus (intro w hSw; (try dsimp only at hSw); go_simp; try (with_reducible rfl))); (try simp only [Act.put, List.getElem_toArray, List.getElem_cons_succ, List.getElem_cons_zero, List.setIfInBounds_toArray, List.set_cons_zero, List.set_cons_succ]))
      refine wpAnyH_ready (rs := [24]) (by kernel_rfl) (by simp) (AllReadyH.cons rfl (fun K hK => ?_) AllReadyH.nil)
      go_simp
      have HM4 := Lib.hid (msafe_any op u7)
      rw [← HSB.out] at HM4
      refine HM4.out.mono ?_
      rintro e u8 ⟨rfl, hb8⟩
      have HU8 := Lib.hid (b_call HU7.out hb8)
      clear hb8
      refine hK.out _ _ (HK4.out _ HU8.out) (fun hHeld => ?_)
      clear hK K
      (try simp only [Act.put, List.getElem_toArray, List.getElem_cons_succ, List.getElem_cons_zero, List.setIfInBounds_toArray, List.set_cons_zero, List.set_cons_succ])
      refine wpAnyH_ready (rs := [26]) (by kernel_rfl) (by simp) (AllReadyH.cons rfl (fun K hK => ?_) AllReadyH.nil)
      go_simp
      have HM5 := Lib.hid (rsafe_any op u8)
      rw [← HSB.out] at HM5
      refine HM5.out.mono ?_
      rintro e u9 ⟨rfl, hb9⟩
      have HU9 := Lib.hid (b_call HU8.out hb9)
      clear hb9
      refine hK.out _ _ (HK4.out _ HU9.out) (fun hHeld => ?_)
      clear hK K
      (try simp only [Act.put, List.getElem_toArray, List.getElem_cons_succ, List.getElem_cons_zero, List.setIfInBounds_toArray, List.set_cons_zero, List.set_cons_succ])
      refine atI 27 ?_
      iterate 3 (refine takeN (v := ?_) rfl (by rfl) ?_ hHeld ?_; rotate_left; (focus (intro w hSw; (try dsimp only at hSw); go_simp; try (with_reducible rfl))); (try simp only [Act.put, Nat.reduceAdd, List.getElem_toArray, List.getElem_cons_succ, List.getElem_cons_zero, List.setIfInBounds_toArray, List.set_cons_zero, List.set_cons_succ]))
      refine atIo ?_
      refine wpAnyH_ready (rs := [30]) (by kernel_rfl) (by simp) (AllReadyH.cons rfl (fun K hK => ?_) AllReadyH.nil)
      go_simp
      refine (awake27 u9).mono ?_
      rintro e u10 ⟨rfl, hb10⟩
      have HU10 := Lib.hid (b_call HU9.out hb10)
      clear hb10
      refine hK.out _ _ (HK4.out _ HU10.out) (fun hHeld => ?_)
      clear hK K
      (try simp only [Act.put, List.getElem_toArray, List.getElem_cons_succ, List.getElem_cons_zero, List.setIfInBounds_toArray, List.set_cons_zero, List.set_cons_succ])
      refine atI 31 ?_
      iterate 2 (refine takeN (v := ?_) rfl (by rfl) ?_ hHeld ?_; rotate_left; (focus (intro w hSw; (try dsimp only at hSw); go_simp; try (with_reducible rfl))); (try simp only [Act.put, Nat.reduceAdd, List.getElem_toArray, List.getElem_cons_succ, List.getElem_cons_zero, List.setIfInBounds_toArray, List.set_cons_zero, List.set_cons_succ]))
      refine atIo ?_
      refine wpAnyH_done (by kernel_rfl) ?_ _
      go_wp2_with fail
      go_ret
      exact ⟨rfl, b_call HBW.out (b_call HBW4.out HU10.out)⟩
end Go.Proofs.Ytdmidnmciaediaa
