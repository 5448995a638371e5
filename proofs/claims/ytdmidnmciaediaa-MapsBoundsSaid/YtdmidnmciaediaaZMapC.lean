/- MapsBounds, walked: whatever the program, the answer is true. Conditions: the program reads as lists. -/
import Derived.Test.YtdmidnmciaediaaZMap6
import Derived.Test.YtdmidnmciaediaaZOurs25
namespace Go.Proofs.Ytdmidnmciaediaa
open Go.RowKit
set_option linter.unusedVariables false
set_option linter.unusedSimpArgs false
attribute [local go_sem] over_cell over_frozen
theorem reachN_nat (P : PrM) (Fx : FxM) (i k : Nat) : reachM P Fx i k = (hP P Fx i k : Int) := by
  unfold reachM
  split
  · rfl
  · rename_i q
    rw [hP_no (by simpa using q)]; rfl
theorem reach_less {P : PrM} {Fx : FxM} {i k : Nat} {t : Int} (h : metB P Fx i k = true) (h16 : ((codeN P i).getD k zIn).op ≠ 16) (hm : t ∈ waysI ((codeN P i).getD k zIn) k) (ht : (k : Int) < t) : reachM P Fx i t < (hP P Fx i k : Int) := by
  have q := met_form h
  rw [show ((i : Int).toNat) = i from rfl] at q
  have hk : k < (codeN P i).length := by omega
  unfold reachM
  split
  · have := hH_lt (cd := codeN P i) (m := fun q => metB P Fx i q) h hk ht (by unfold onI; rw [if_neg h16]; exact hm)
    show ((hP P Fx i t.toNat : Nat) : Int) < _
    unfold hP
    omega
  · have := hP_yes h
    omega
theorem ways_len (x : In4) (k : Nat) : (waysI x k).length ≤ 2 := by
  unfold waysI
  repeat' split
  all_goals simp
theorem fx_lens {P : PrM} {Ms : List (List (Option (List Int)))} (h : checkM P = .inl Ms) : (factsOf (checkM P)).length = P.fs.length ∧ ∀ i, (hi : i < (factsOf (checkM P)).length) → (factsOf (checkM P))[i].length = (codeN P i).length := by
  obtain ⟨_, hl, hall⟩ := checkM_all h
  have e : factsOf (checkM P) = Ms.map fxM := by rw [h]; rfl
  rw [e]
  refine ⟨by rw [List.length_map, hl], fun i hi => ?_⟩
  have hi1 : i < Ms.length := by simpa using hi
  have hi2 : i < P.fs.length := by omega
  rw [List.getElem_map]
  unfold fxM codeN
  rw [List.length_map, (hall i hi2 hi1).len, getD_at hi2]
set_option maxRecDepth 100000 in
set_option maxHeartbeats 8000000 in
theorem mapsBounds_any (p : PrV) (P : PrM) (w : World) (h : ReadP w p P) : Calls Try.prog 13 #[aggP p] w fun e w' => e = .returned (.bool true) ∧ Below w.heap.size w w' := by
  have H := Lib.hid h
  obtain ⟨C, hC⟩ : ∃ C, C = cutP P := ⟨_, rfl⟩
  have HC := Lib.hid hC
  have HSM : Hid (SmallP C) := by show SmallP C; rw [hC]; exact small_cut P
  obtain ⟨u, ⟨ga, gn, gc⟩, m, ⟨fa, fn, fc⟩⟩ := p
  clear h hC
  unfold aggP Sl.v
  simp only
  have HB0 := Lib.hid (b_alloc (Below.refl w.heap.size w) (.cells #[.bool u, .slice ga gn gc, .int .i64 m, .slice fa fn fc] 25))
  have HX0 := Lib.hid (blk_new w #[.bool u, .slice ga gn gc, .int .i64 m, .slice fa fn fc] 25)
  go_enter Try.func13, Try.ntmps13
  go_wp2_with fail
  refine (cut_made ⟨u, ⟨ga, gn, gc⟩, m, ⟨fa, fn, fc⟩⟩ P w _ H.out HB0.out).mono ?_
  rintro e w1 ⟨q, rfl, hcm, hb1⟩
  rw [← HC.out] at hcm
  obtain ⟨qu, ⟨qa, qn, qc⟩, qm, ⟨ra, rn, rc⟩⟩ := q
  have BX1 := blk_below HX0.out hb1
  have HB1 := Lib.hid (b_call HB0.out hb1)
  have HCM := Lib.hid hcm
  have hl1 := BX1.1
  have HX1 := Lib.hid BX1
  obtain ⟨c0, c1, c2, c3, cf⟩ := blk4 BX1
  clear hcm hb1 BX1
  unfold aggP Sl.v
  simp only
  go_upto_region 2 with fail
  refine wp_named ?_
  intro W hW
  have BW : Blk W w.heap.size [.bool qu, .slice qa qn qc, .int .i64 qm, .slice ra rn rc] := by rw [hW]; exact blk_set (blk_set (blk_set (blk_set HX1.out 0 _) 1 _) 2 _) 3 _
  have GW := gb_set (gb_set (gb_set (gb_set (gb_refl w1 (some w.heap.size)) 0 none (.bool qu)) 1 none (.slice qa qn qc)) 2 none (.int .i64 qm)) 3 none (.slice ra rn rc)
  rw [← hW] at GW
  have hBW : Below w.heap.size w W := b_grown HB1.out GW (Nat.le_refl _)
  have RW : ReadP W ⟨qu, ⟨qa, qn, qc⟩, qm, ⟨ra, rn, rc⟩⟩ C := cutMade_read (cutMade_grown HCM.out GW (by simp)) hBW
  obtain ⟨n1, n2, n3⟩ := fn_len RW
  simp only at n1 n2 n3
  subst n1
  have HR := Lib.hid RW
  have HBW := Lib.hid hBW
  have HK : Hid (∀ w', Below W.heap.size W w' → (w'.cell? ⟨w.heap.size, 0, none⟩ = some (.bool qu) ∧ w'.cell? ⟨w.heap.size, 1, none⟩ = some (.slice qa qn qc) ∧ w'.cell? ⟨w.heap.size, 2, none⟩ = some (.int .i64 qm) ∧ w'.cell? ⟨w.heap.size, 3, none⟩ = some (.slice ra C.fs.length rc)) ∧ w.heap.size < w'.heap.size) := Lib.hid (fun w' hb => by
    obtain ⟨y0, y1, y2, y3, _⟩ := blk4 (blk_below BW hb); exact ⟨⟨y0, y1, y2, y3⟩, (blk_below BW hb).1⟩)
  clear hW GW hBW RW c0 c1 c2 c3 cf BW HX1 hl1 HCM HB1
  obtain ⟨⟨c0, c1, c2', c3'⟩, cz⟩ := HK.out W (Below.refl _ _)
  go_wp2_with fail
  refine (ours25_any ⟨qu, ⟨qa, qn, qc⟩, qm, ⟨ra, C.fs.length, rc⟩⟩ C _ HR.out HSM.out).mono ?_
  rintro e w2 ⟨o, rfl, ho, hb2⟩
  have HV := Lib.hid (vcheck_fx o C w2 ho HSM.out)
  have HB2 := Lib.hid hb2
  obtain ⟨Fx, hFx⟩ : ∃ Fx, Fx = factsOf (checkM C) := ⟨_, rfl⟩
  have HFX := Lib.hid hFx
  rw [← hFx] at HV
  clear ho hb2 c0 c1 c2' c3' cz hFx
  go_wp2_with fail
  refine HV.out.mono ?_
  rintro e w3 ⟨a3, c3, wx, wy, wz, rfl, hf3, hz1, hz2, hb3⟩
  have HB3' := Lib.hid (b_call HB2.out hb3)
  have HF3' := Lib.hid hf3
  clear hb3 HV hf3
  go_upto_region 3 with fail
  refine wp_named ?_
  intro W3 hW3
  have S3 : Blk W3 w3.heap.size [.int .i64 wx, .int .i64 wy, .int .i64 wz] ∧ Below w3.heap.size w3 W3 := by
    first
    | (rw [hW3]; exact ⟨blk_new _ _ _, b_alloc (Below.refl _ _) _⟩)
    | exact store3 rfl hW3
  have HB3 := Lib.hid (b_call HB3'.out S3.2)
  have HF3 := Lib.hid (facR_below HF3'.out S3.2)
  obtain ⟨y0, y1, y2, _⟩ := v_blk3 S3.1
  have yz := S3.1.1
  clear hW3 S3
  have HCK := Lib.hid (rfl : checkM C = checkM C)
  cases hC : checkM C with
  | inr x =>
    have hz : wz ≠ 0 := hz2 (fun Ms e => by rw [hC] at e; cases e)
    have hzz : (wz != 0) = true := bne_iff_ne.2 hz
    clear hz hz1 hz2 hC
    go_wp2_with fail
    refine (awake27 _).mono ?_
    rintro e w9 ⟨rfl, hb9⟩
    have HB9 := Lib.hid (b_call HB3.out hb9)
    clear hb9
    go_wp2_with fail
    go_ret
    exact ⟨rfl, b_call HBW.out HB9.out⟩
  | inl Ms =>
    obtain ⟨rfl, rfl, rfl⟩ := hz1 ⟨Ms, hC⟩
    obtain ⟨hl1, hl2⟩ := fx_lens hC
    rw [← HFX.out] at hl1
    have hl3 : ∀ i, (hi : i < Fx.length) → Fx[i].length = (codeN C i).length := fun i hi => by
      have := hl2 i (by rw [← HFX.out]; exact hi)
      simpa [HFX.out] using this
    have HL3 := Lib.hid hl3
    have hfn : Fx.length = C.fs.length := hl1
    have HFN := Lib.hid hfn
    have HML : Hid (∀ i k, i < C.fs.length → k < (codeN C i).length → hP C Fx i k ≤ mxAll C Fx) := Lib.hid (fun i k hi hk => Nat.le_trans (mxF_ge C Fx i _ k hk) (mxP_ge C Fx _ i hi))
    have hn17 : (Fx.length : Int) ≤ 17 := by have := HSM.out.f; omega
    have HFC : Hid (Fx.length ≤ c3) := Lib.hid (by obtain ⟨_, cc9, e9, h9, _⟩ := facR_form HF3.out; injection e9 with _ _ e9; omega)
    clear hz1 hz2 hC hl1 hl2 hl3 hfn
    go_wp2_with fail
    clear y0 y1 y2 yz
    go_loopw [26] (fun iv wr => ∃ i : Nat, i ≤ Fx.length ∧ iv = .int .i64 i ∧ Hid (Below W3.heap.size W3 wr)) (fun iv _ => Fx.length - (intOf iv).toNat)
    case atStart => exact ⟨0, Nat.zero_le _, rfl, Lib.hid (Below.refl _ _)⟩
    case round =>
      obtain ⟨W4, hW4⟩ : ∃ x, x = wr := ⟨_, rfl⟩
      subst hW4
      obtain ⟨i, hi, rfl, HB4⟩ := hrel
      have i0 : (0 : Int) ≤ i := by omega
      by_cases hlt : i < Fx.length
      · have i1 : (i : Int) < Fx.length := by omega
        have ic3 : (i : Int) < c3 := by have := HFC.out; omega
        have hiF : i < C.fs.length := by have := HFN.out; omega
        obtain ⟨fb, fo, s, ea, hfb, hfc, hfl⟩ := facR_at HF3.out hlt
        subst ea
        obtain ⟨sn', sc1, sc2⟩ := facL_form hfl
        have hcl := HL3.out i hlt
        obtain ⟨b2, o2, ea2, hb2, ⟨⟨pa, pn, pc⟩, ⟨la, ln, lc⟩, r, ⟨ca, cn, cc⟩⟩, hd, _, _, _, e3⟩ := fn_at HR.out hiF
        simp only at ea2 e3
        subst ea2
        have HCOD : codeN C i = C.fs[i].code := by unfold codeN; rw [getD_at hiF]
        have hD : ReadR inE W (.slice ca cn cc) (codeN C i) := by rw [HCOD]; exact hd.c
        obtain ⟨_, cap9, ec, hcc1, hcc2⟩ := readR_len hD
        injection ec with ec3 ec4 ec5
        clear ec3
        have hsm := (HSM.out.a _ (List.getElem_mem hiF)).c
        rw [← HCOD] at hsm
        obtain ⟨N, hN⟩ : ∃ N, N = (codeN C i).length := ⟨_, rfl⟩
        rw [ec4, ← hN] at e3 hD
        rw [sn', hcl, ← hN] at hfc
        have HIF := Lib.hid hiF
        have HN := Lib.hid hN
        have HD := Lib.hid hD
        have n9 : (N : Int) ≤ 100 := by omega
        have ncc : (N : Int) ≤ cc := by omega
        have nsc : (N : Int) ≤ s.c := by omega
        have HFL := Lib.hid hfl
        have HCL : Hid (Fx[i].length = N) := Lib.hid (by rw [hcl, hN])
        have HE := Lib.hid (And.intro hb2 e3)
        have irc : (i : Int) < rc := by omega
        have iC : (i : Int) < C.fs.length := by omega
        obtain ⟨sa, sn, sc⟩ := s
        simp only at hfc nsc sc1 sc2
        have hfc' := ((bcell HB4.out).1 _ _ hfb).trans hfc
        have hfz' := Nat.lt_of_lt_of_le hfb HB4.out.size
        clear hfc hfb hfl sn' hcl hd HCOD hD hcc1 hcc2 ec4 ec5 hsm hN hb2 e3 sc1
        go_wp2_with fail
        clear hfc' hfz'
        go_loopw [33] (fun kv wr => ∃ k : Nat, k ≤ N ∧ kv = .int .i64 k ∧ Hid (Below W3.heap.size W3 wr)) (fun kv _ => N - (intOf kv).toNat)
        case atStart => exact ⟨0, Nat.zero_le _, rfl, HB4⟩
        case round =>
          obtain ⟨W5, hW5⟩ : ∃ x, x = wr := ⟨_, rfl⟩
          subst hW5
          obtain ⟨k, hk, rfl, HB5⟩ := hrel
          have k0 : (0 : Int) ≤ k := by omega
          by_cases hkl : k < N
          · have k1 : (k : Int) < N := by omega
            have ksc : (k : Int) < sc := by omega
            have kcc : (k : Int) < cc := by omega
            have hkF : k < Fx[i].length := by rw [HCL.out]; exact hkl
            have hkC : k < (codeN C i).length := by rw [← HN.out]; exact hkl
            obtain ⟨kb, ko, v4, ea4, hkb, hk0, hk1, _⟩ := facL_at HFL.out hkF
            simp only at ea4
            have hmet : metB C Fx i k = Fx[i][k].1 := by
              rw [metB_at HIF.out hlt (by show k < (codeN C i).length; exact hkC) (by rw [getD_at hlt]; exact hkF)]
              unfold factM
              rw [getD_at hlt, getD_at hkF]
            obtain ⟨B, hB⟩ : ∃ B, B = metB C Fx i k := ⟨_, rfl⟩
            have HBB := Lib.hid hB
            rw [← hmet, ← hB] at hk0
            subst ea4
            have HKC := Lib.hid hkC
            have hbc := (bcell HB5.out).1
            have hk0' := (hbc _ _ hkb).trans hk0
            have hk1' := (hbc _ _ hkb).trans hk1
            have hkz' := Nat.lt_of_lt_of_le hkb HB5.out.size
            obtain ⟨va, vn, vc⟩ := v4
            simp only at hk1'
            have HHN := Lib.hid (hP_le C Fx i k)
            have HHM := Lib.hid (HML.out i k HIF.out hkC)
            have HH0 : Hid (B = false → hP C Fx i k = 0) := Lib.hid (fun z => hP_no (by rw [← hB]; exact z))
            have HH1 : Hid (B = true → 1 ≤ hP C Fx i k) := Lib.hid (fun z => by have := hP_yes (P := C) (Fx := Fx) (i := i) (k := k) (by rw [← hB]; exact z); omega)
            have HLS : Hid (B = true → ((codeN C i).getD k zIn).op ≠ 16 → ∀ t ∈ waysI ((codeN C i).getD k zIn) k, (k : Int) < t → reachM C Fx i t < (hP C Fx i k : Int)) := Lib.hid (fun z h16 t ht hkt => reach_less (by rw [← hB]; exact z) h16 ht hkt)
            obtain ⟨MA, hMA⟩ : ∃ MA, MA = mxAll C Fx := ⟨_, rfl⟩
            have HMA := Lib.hid hMA
            rw [← hMA] at HHM
            have HRE := Lib.hid (reachN_nat C Fx i k)
            obtain ⟨hn, hhn⟩ : ∃ hn, hn = hP C Fx i k := ⟨_, rfl⟩
            rw [← hhn] at HHN HHM HH0 HH1 HLS HRE
            clear hmet hk0 hk1 hkb hbc hMA hB hhn
            go_upto_region 11 with fail
            refine wp_named ?_
            intro W6 hW6
            have S6 : Blk W6 W5.heap.size [.bool B, .slice va vn vc] ∧ Below W5.heap.size W5 W6 := by
              first
              | (rw [hW6]; exact ⟨blk_new _ _ _, b_alloc (Below.refl _ _) _⟩)
              | exact store2 rfl hW6
            have HX6 := Lib.hid S6.1
            have HB6 := Lib.hid (b_call HB5.out S6.2)
            have HBW6 := Lib.hid (b_call HB3.out HB6.out)
            obtain ⟨⟨c0, c1, c2', c3'⟩, cz⟩ := HK.out W6 HBW6.out
            clear hW6 S6 hk0' hk1' hkz'
            go_wp2_with fail
            refine (ours25_any ⟨qu, ⟨qa, qn, qc⟩, qm, ⟨some ⟨b2, o2, none⟩, C.fs.length, rc⟩⟩ C _ (readP_below HR.out HBW6.out) HSM.out).mono ?_
            rintro e w7 ⟨o7, rfl, ho7, hb7⟩
            have HB7 := Lib.hid (b_call HB6.out hb7)
            have HMR := Lib.hid (mreach_any o7 C (.slice (some ⟨fb, fo, none⟩) Fx.length c3) Fx i k w7 ho7 HSM.out (facR_below HF3.out HB7.out))
            rw [HRE.out] at HMR
            have HX7 := Lib.hid (blk_below HX6.out hb7)
            clear ho7 hb7 c0 c1 c2' c3' cz
            go_wp2_with fail
            refine HMR.out.mono ?_
            rintro e w8 ⟨rfl, hb8⟩
            have HB8 := Lib.hid (b_call HB7.out hb8)
            have HX8 := Lib.hid (blk_below HX7.out hb8)
            obtain ⟨x0, x1, _⟩ := blk2 HX8.out
            have xz := HX8.out.1
            clear hb8 HMR
            cases B with
            | false =>
              have hn0 : hn = 0 := HH0.out rfl
              subst hn0
              go_wp2_with fail
              go_roundw
              case rel => exact ⟨k + 1, by omega, by first | rfl | go_num, HB8⟩
              case measure => simp [intOf]; omega
            | true =>
              have h1n := HH1.out rfl
              have g1 : ¬ ((hn : Int) < 1) := by omega
              have g2 : ¬ ((N : Int) < hn) := by have := HHN.out; have := HN.out; omega
              have g3 : ¬ ((MA : Int) < hn) := by have := HHM.out; omega
              have HBW8 := Lib.hid (b_call HB3.out HB8.out)
              obtain ⟨⟨c0, c1, c2', c3'⟩, cz⟩ := HK.out w8 HBW8.out
              have hbw := HBW8.out
              have dz := Nat.lt_of_lt_of_le HE.out.1 hbw.size
              have d3 := ((bcell hbw).1 _ _ HE.out.1).trans HE.out.2
              clear h1n hbw
              go_wp2_with fail
              refine (ours25_any ⟨qu, ⟨qa, qn, qc⟩, qm, ⟨some ⟨b2, o2, none⟩, C.fs.length, rc⟩⟩ C _ (readP_below HR.out HBW8.out) HSM.out).mono ?_
              rintro e w9 ⟨o9, rfl, ho9, hb9⟩
              have HB9 := Lib.hid (b_call HB8.out hb9)
              have HMM := Lib.hid (mmost_any o9 C (.slice (some ⟨fb, fo, none⟩) Fx.length c3) Fx w9 ho9 HSM.out (facR_below HF3.out HB9.out))
              rw [← HMA.out] at HMM
              clear ho9 hb9 c0 c1 c2' c3' cz dz d3 x0 x1 xz
              go_wp2_with fail
              refine HMM.out.mono ?_
              rintro e w10 ⟨rfl, hb10⟩
              have HB10 := Lib.hid (b_call HB9.out hb10)
              have HBW10 := Lib.hid (b_call HB3.out HB10.out)
              obtain ⟨⟨c0, c1, c2', c3'⟩, cz⟩ := HK.out w10 HBW10.out
              have hbw := HBW10.out
              have dz := Nat.lt_of_lt_of_le HE.out.1 hbw.size
              have d3 := ((bcell hbw).1 _ _ HE.out.1).trans HE.out.2
              obtain ⟨bc, oc, ec, hbc, x0, x1, x2, x3⟩ := ins_at (readR_below HD.out (b_call HBW10.out (Below.refl _ _))) HKC.out
              subst ec
              have HCW := Lib.hid (fun w => rways_any ((codeN C i)[k]'HKC.out).op ((codeN C i)[k]'HKC.out).x ((codeN C i)[k]'HKC.out).a ((codeN C i)[k]'HKC.out).b k (by omega) w)
              have e9 : (⟨((codeN C i)[k]'HKC.out).op, ((codeN C i)[k]'HKC.out).x, ((codeN C i)[k]'HKC.out).a, ((codeN C i)[k]'HKC.out).b⟩ : In4) = (codeN C i).getD k zIn := by rw [getD_at HKC.out]
              rw [e9] at HCW
              have HOP : Hid (((codeN C i)[k]'HKC.out).op = ((codeN C i).getD k zIn).op) := Lib.hid (congrArg In4.op (getD_at HKC.out zIn).symm)
              have HLS2 := Lib.hid (HLS.out (by first | rfl | trivial))
              obtain ⟨WL, hWL⟩ : ∃ WL, WL = waysI ((codeN C i).getD k zIn) k := ⟨_, rfl⟩
              rw [← hWL] at HCW HLS2
              have HWL : Hid (WL.length ≤ 2) := Lib.hid (by rw [hWL]; exact ways_len _ _)
              clear hWL e9 hb10
              generalize ((codeN C i)[k]'HKC.out).op = op at *
              generalize ((codeN C i)[k]'HKC.out).x = ix at *
              generalize ((codeN C i)[k]'HKC.out).a = ia at *
              generalize ((codeN C i)[k]'HKC.out).b = ib at *
              by_cases h16 : op = 16
              · have t16 : (op == 16) = true := by rw [h16]; rfl
                clear h16
                go_wp2_with fail
                go_roundw
                case rel => exact ⟨k + 1, by omega, by first | rfl | go_num, HB10⟩
                case measure => simp [intOf]; omega
              · have t16 : (op == 16) = false := beq_false_of_ne h16
                have HLT : Hid (∀ t ∈ WL, (k : Int) < t → reachM C Fx i t < (hn : Int)) := Lib.hid (fun t ht hkt => HLS2.out (by rw [← HOP.out]; exact h16) t ht hkt)
                clear h16
                go_wp2_with fail
                refine (HCW.out _).mono ?_
                rintro e w11 ⟨wa, wcp, rfl, hro, hb11⟩
                have HB11 := Lib.hid (b_call HB10.out hb11)
                have HRW := Lib.hid hro
                have ho2 : WL.length ≤ wcp := (int_len (s := ⟨wa, WL.length, wcp⟩) hro).2.1
                have ho3 : (wcp : Int) ≤ 9223372036854775807 := by have := (int_len (s := ⟨wa, WL.length, wcp⟩) hro).2.2; simp only at this; omega
                have hol : (WL.length : Int) ≤ 2 := by have := HWL.out; omega
                clear hb11 hro x0 x1 x2 x3 hbc c0 c1 c2' c3' cz dz d3 hbw
                go_wp2_with fail
                go_loopw [93] (fun tv wr => ∃ t : Nat, t ≤ WL.length ∧ tv = .int .i64 t ∧ Hid (Below w11.heap.size w11 wr)) (fun tv _ => WL.length - (intOf tv).toNat)
                case atStart => exact ⟨0, Nat.zero_le _, rfl, Lib.hid (Below.refl _ _)⟩
                case round =>
                  obtain ⟨W12, hW12⟩ : ∃ x, x = wr := ⟨_, rfl⟩
                  subst hW12
                  obtain ⟨t, ht, rfl, HB12⟩ := hrel
                  have t0 : (0 : Int) ≤ t := by omega
                  have HB312 := Lib.hid (b_call HB11.out HB12.out)
                  by_cases htl : t < WL.length
                  · have t1 : (t : Int) < WL.length := by omega
                    have tc1 : (t : Int) < wcp := by omega
                    obtain ⟨bw, ow, cw, e1, r1, r2, hbw, r4⟩ := readI_pos (readI_below HRW.out HB12.out) (by omega)
                    injection e1 with e1 _ e3
                    subst e1
                    have hcx := r4 t htl
                    rw [getD_at htl] at hcx
                    have HTM := Lib.hid (List.getElem_mem htl)
                    generalize WL[t] = x at *
                    clear r4 r1 r2 e3
                    by_cases hkx : (k : Int) < x
                    · have HLX := Lib.hid (HLT.out x HTM.out hkx)
                      have HBW12 := Lib.hid (b_call HB3.out HB312.out)
                      obtain ⟨⟨c0, c1, c2', c3'⟩, cz⟩ := HK.out W12 HBW12.out
                      go_wp2_with fail
                      refine (ours25_any ⟨qu, ⟨qa, qn, qc⟩, qm, ⟨some ⟨b2, o2, none⟩, C.fs.length, rc⟩⟩ C _ (readP_below HR.out HBW12.out) HSM.out).mono ?_
                      rintro e w13 ⟨o13, rfl, ho13, hb13⟩
                      have HB13 := Lib.hid (b_call HB312.out hb13)
                      have HB1113 := Lib.hid (b_call HB12.out hb13)
                      have HMR := Lib.hid (mreach_any o13 C (.slice (some ⟨fb, fo, none⟩) Fx.length c3) Fx i x w13 ho13 HSM.out (facR_below HF3.out HB13.out))
                      obtain ⟨rx, hrx⟩ : ∃ rx, rx = reachM C Fx i x := ⟨_, rfl⟩
                      rw [← hrx] at HMR HLX
                      have g4 : ¬ ((hn : Int) ≤ rx) := by have := HLX.out; omega
                      clear ho13 hb13 c0 c1 c2' c3' cz hrx hcx hbw
                      go_wp2_with fail
                      refine HMR.out.mono ?_
                      rintro e w14 ⟨rfl, hb14⟩
                      have HB14 := Lib.hid (b_call HB1113.out hb14)
                      clear hb14
                      go_wp2_with fail
                      go_roundw
                      case rel => exact ⟨t + 1, by omega, by first | rfl | go_num, HB14⟩
                      case measure => simp [intOf]; omega
                    · have hkx1 : ¬ ((k : Int) < x) := hkx
                      go_wp2_with fail
                      go_roundw
                      case rel => exact ⟨t + 1, by omega, by first | rfl | go_num, HB12⟩
                      case measure => simp [intOf]; omega
                  · have t1 : ¬ ((t : Int) < WL.length) := by omega
                    go_wp2_with fail
                    go_roundw
                    case rel => exact ⟨k + 1, by omega, by first | rfl | go_num, HB312⟩
                    case measure => simp [intOf]; omega
          · have k1 : ¬ ((k : Int) < N) := by omega
            go_wp2_with fail
            go_roundw
            case rel => exact ⟨i + 1, by omega, by first | rfl | go_num, HB5⟩
            case measure => simp [intOf]; omega
      · have i1 : ¬ ((i : Int) < Fx.length) := by omega
        go_wp2_with fail
        refine (awake27 _).mono ?_
        rintro e w9 ⟨rfl, hb9⟩
        have HB9 := Lib.hid (b_call HB4.out hb9)
        clear hb9
        go_wp2_with fail
        go_ret
        exact ⟨rfl, b_call HBW.out (b_call HB3.out HB9.out)⟩
end Go.Proofs.Ytdmidnmciaediaa
