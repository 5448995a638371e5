/- VerifyHolds, walked: whatever the program, the answer is true. Conditions: the program reads as lists. -/
import Derived.Test.YtdmidnmciaediaaVerV0
namespace Go.Proofs.Ytdmidnmciaediaa
open Go.RowKit
set_option linter.unusedVariables false
set_option linter.unusedSimpArgs false
attribute [local go_sem] over_cell over_frozen
set_option maxRecDepth 100000 in
set_option maxHeartbeats 4000000 in
theorem verifyHolds_any (p : PrV) (P : PrM) (w : World) (h : ReadP w p P) : Calls Try.prog 9 #[aggP p] w fun e w' => e = .returned (.bool true) ∧ Below w.heap.size w w' := by
  have H := Lib.hid h
  obtain ⟨C, hC⟩ : ∃ C, C = cutP P := ⟨_, rfl⟩
  have HC := Lib.hid hC
  have HSM : Hid (SmallP C) := by show SmallP C; rw [hC]; exact small_cut P
  obtain ⟨R, hR⟩ : ∃ R, R = checkM C := ⟨_, rfl⟩
  have HRR := Lib.hid hR
  obtain ⟨u, ⟨ga, gn, gc⟩, m, ⟨fa, fn, fc⟩⟩ := p
  clear h hC hR
  unfold aggP Sl.v
  simp only
  have HB0 := Lib.hid (b_alloc (Below.refl w.heap.size w) (.cells #[.bool u, .slice ga gn gc, .int .i64 m, .slice fa fn fc] 25))
  have HX0 := Lib.hid (blk_new w #[.bool u, .slice ga gn gc, .int .i64 m, .slice fa fn fc] 25)
  go_enter Try.func9, Try.ntmps9
  go_wp2_with fail
  refine (cut_made ⟨u, ⟨ga, gn, gc⟩, m, ⟨fa, fn, fc⟩⟩ P w _ H.out HB0.out).mono ?_
  rintro e w1 ⟨q, rfl, hcm, hb1⟩
  rw [← HC.out] at hcm
  obtain ⟨qu, ⟨qa, qn, qc⟩, qm, ⟨ra, rn, rc⟩⟩ := q
  have BX1 := blk_below HX0.out hb1
  have HB1 := Lib.hid (b_call HB0.out hb1)
  have HCM := Lib.hid hcm
  have hl1 := BX1.1
  have HX1 := Lib.hid BX1
  obtain ⟨c0, c1, c2, c3, cf⟩ := blk4 BX1
  clear hcm hb1 BX1
  unfold aggP Sl.v
  simp only
  go_upto_region 2 with fail
  refine wp_named ?_
  intro W hW
  have BW : Blk W w.heap.size [.bool qu, .slice qa qn qc, .int .i64 qm, .slice ra rn rc] := by rw [hW]; exact blk_set (blk_set (blk_set (blk_set HX1.out 0 _) 1 _) 2 _) 3 _
  have GW := gb_set (gb_set (gb_set (gb_set (gb_refl w1 (some w.heap.size)) 0 none (.bool qu)) 1 none (.slice qa qn qc)) 2 none (.int .i64 qm)) 3 none (.slice ra rn rc)
  rw [← hW] at GW
  have hBW : Below w.heap.size w W := b_grown HB1.out GW (Nat.le_refl _)
  have RW : ReadP W ⟨qu, ⟨qa, qn, qc⟩, qm, ⟨ra, rn, rc⟩⟩ C := cutMade_read (cutMade_grown HCM.out GW (by simp)) hBW
  have HR := Lib.hid RW
  have HBW := Lib.hid hBW
  have HK : Hid (∀ w', Below W.heap.size W w' → (w'.cell? ⟨w.heap.size, 0, none⟩ = some (.bool qu) ∧ w'.cell? ⟨w.heap.size, 1, none⟩ = some (.slice qa qn qc) ∧ w'.cell? ⟨w.heap.size, 2, none⟩ = some (.int .i64 qm) ∧ w'.cell? ⟨w.heap.size, 3, none⟩ = some (.slice ra rn rc)) ∧ w.heap.size < w'.heap.size) := Lib.hid (fun w' hb => by
    obtain ⟨y0, y1, y2, y3, _⟩ := blk4 (blk_below BW hb); exact ⟨⟨y0, y1, y2, y3⟩, (blk_below BW hb).1⟩)
  clear hW GW hBW RW c0 c1 c2 c3 cf BW HX1 hl1 HCM HB1
  obtain ⟨⟨c0, c1, c2, c3⟩, cz⟩ := HK.out W (Below.refl _ _)
  go_wp2_with fail
  refine (ours25_any ⟨qu, ⟨qa, qn, qc⟩, qm, ⟨ra, rn, rc⟩⟩ C _ HR.out HSM.out).mono ?_
  rintro e w2 ⟨o, rfl, ho, hb2⟩
  have HV := Lib.hid (vcheck_any o C w2 ho)
  rw [← HRR.out] at HV
  have HB2 := Lib.hid hb2
  clear ho hb2 c0 c1 c2 c3 cz
  cases R with
  | inr x =>
    have hx2 : x.2.2 ≠ 0 := checkM_code HRR.out.symm
    have hx3 : (x.2.2 != 0) = true := bne_iff_ne.2 hx2
    go_wp2_with fail
    refine HV.out.mono ?_
    rintro e w3 ⟨he, hb3⟩
    have he : e = .returned (.tuple #[.slice none 0 0, .agg #[.int .i64 x.1, .int .i64 x.2.1, .int .i64 x.2.2]]) := he
    subst he
    have HB3 := Lib.hid (b_call HB2.out hb3)
    have HA3 := Lib.hid (b_alloc (Below.refl w3.heap.size w3) (.cells #[.int .i64 0, .int .i64 0, .int .i64 0] 85))
    clear hb3 hx2
    go_upto_region 3 with fail
    refine wp_named ?_
    intro W4 hW4
    have S4 : Blk W4 w3.heap.size [.int .i64 x.1, .int .i64 x.2.1, .int .i64 x.2.2] ∧ Below w3.heap.size w3 W4 := by
      first
      | (rw [hW4]; exact ⟨blk_new _ _ _, b_alloc (Below.refl _ _) _⟩)
      | exact store3 rfl hW4
    have HB4 := Lib.hid (b_call HB3.out S4.2)
    obtain ⟨d0, d1, d2, _⟩ := v_blk3 S4.1
    have s4z := S4.1.1
    clear hW4 S4
    go_wp2_with fail
    refine (awake26 _).mono ?_
    rintro e w9 ⟨rfl, hb9⟩
    have HB9 := Lib.hid hb9
    clear hb9
    go_wp2_with fail
    go_ret
    exact ⟨rfl, b_call HBW.out (b_call HB4.out HB9.out)⟩
  | inl Ms =>
    obtain ⟨hmay, hml, hfin⟩ := checkM_all HRR.out.symm
    obtain ⟨hpos, hsm, hall⟩ := may_good hmay
    have HFIN := Lib.hid hfin; have HALL := Lib.hid hall; have HSP := Lib.hid hsm
    have HML := Lib.hid hml
    have hlen17 : (C.fs.length : Int) ≤ 17 := by have := HSP.out.f; omega
    clear hmay hfin hpos hsm hall
    go_wp2_with fail
    refine HV.out.mono ?_
    rintro e w3 ⟨⟨a, c, L, rfl, hL, hA⟩, hb3⟩
    unfold wrongV
    have hLL : L.length = C.fs.length := hA.1.trans hml
    have HLL := Lib.hid hLL
    have HL := Lib.hid hL; have HA := Lib.hid hA
    have HB3 := Lib.hid (b_call HB2.out hb3)
    have hLc : (C.fs.length : Int) ≤ c := by
      obtain ⟨_, cp, e, h1, _⟩ := readR_len hL
      injection e with _ _ e3
      rw [← e3] at h1; omega
    have hc9 : (c : Int) ≤ 9223372036854775807 := by
      obtain ⟨_, cp, e, _, h2⟩ := readR_len hL
      injection e with _ _ e3
      unfold maxLen at h2; rw [← e3] at h2; omega
    rw [hLL]
    clear hLL hml hb3 hL hA HV
    go_upto_region 3 with fail
    refine wp_named ?_
    intro W4 hW4
    have S4 : Blk W4 w3.heap.size [.int .i64 0, .int .i64 0, .int .i64 0] ∧ Below w3.heap.size w3 W4 := by
      first
      | (rw [hW4]; exact ⟨blk_new _ _ _, b_alloc (Below.refl _ _) _⟩)
      | exact store3 rfl hW4
    have HB4 := Lib.hid (b_call HB3.out S4.2)
    have HL4 := Lib.hid (readR_below HL.out S4.2)
    have HA4 := Lib.hid (allR_below HA.out S4.2)
    obtain ⟨d0, d1, d2, _⟩ := v_blk3 S4.1
    have s4z := S4.1.1
    obtain ⟨⟨c0, c1, c2, c3⟩, cz⟩ := HK.out W4 HB4.out
    obtain ⟨n1, n2, n3⟩ := fn_len HR.out
    simp only at n1 n2 n3
    subst n1
    clear hW4 S4 HL HA
    go_wp2_with fail
    clear d0 d1 d2 s4z c0 c1 c2 c3 cz
    go_loopw [39] (fun i wr => ∃ j : Nat, i = .int .i64 j ∧ j ≤ C.fs.length ∧ Hid (Below W4.heap.size W4 wr)) (fun i _ => C.fs.length - (intOf i).toNat)
    case atStart => exact ⟨0, rfl, Nat.zero_le _, Lib.hid (Below.refl _ _)⟩
    case round =>
      obtain ⟨W7, hW7⟩ : ∃ x, x = wr := ⟨_, rfl⟩
      subst hW7
      obtain ⟨j, rfl, hj, HBR⟩ := hrel
      have j0 : (0 : Int) ≤ j := by omega
      by_cases hlt : j < C.fs.length
      · have j1 : (j : Int) < C.fs.length := by omega
        have jc : (j : Int) < c := by omega
        have jrc : (j : Int) < rc := by omega
        have hlt1 : j < L.length := by rw [HLL.out]; exact hlt
        have hltM : j < Ms.length := by rw [HML.out]; exact hlt
        obtain ⟨b1, o1, rfl, hb1, _, _, hc1⟩ := sl_at HL4.out hlt1
        obtain ⟨F1, hr1⟩ := HA4.out.2 j hlt1 hltM
        have HFF := Lib.hid (HFIN.out j hlt hltM)
        obtain ⟨x1, x2, x3, x4⟩ := HALL.out _ (List.getElem_mem hlt)
        have HF1 := Lib.hid x1; have HF2 := Lib.hid x2
        obtain ⟨b2, o2, ea, hb2, v, hd, e0, e1, e2, e3⟩ := fn_at HR.out hlt
        simp only at ea
        subst ea
        have hvr : v.r = C.fs[j].r := hd.r
        rw [← hvr] at e2
        obtain ⟨_, cap9, ec, hcc1, hcc2⟩ := readR_len hd.c
        obtain ⟨⟨pa, pn, pc⟩, ⟨la, ln, lc⟩, r, ⟨ca, cn, cc⟩⟩ := v
        have ec2 : Value.slice ca cn cc = .slice _ C.fs[j].code.length cap9 := ec
        injection ec2 with ec3 ec4 ec5
        subst ec4
        simp only at e0 e1 e2 e3
        have en : L[j].2 = C.fs[j].code.length := hr1.lm.symm.trans HFF.out.len
        rw [en] at hc1 hr1
        generalize Ms[j] = M at *
        generalize C.fs[j] = f at *
        generalize L[j].1 = g1 at *
        obtain ⟨N, hN⟩ : ∃ N, N = f.code.length := ⟨_, rfl⟩
        have HN := Lib.hid hN
        rw [← hN] at hc1 hr1 e3 x3 x4 hd
        have HD := Lib.hid hd
        have n9 : (N : Int) ≤ 200 := by omega
        have n8 : (0 : Int) < N := by omega
        have hF0 : 0 < F1.length := by rw [hr1.lf]; exact x3
        have HC1 := Lib.hid hc1; have HR1 := Lib.hid hr1
        have HE := Lib.hid (And.intro e0 (And.intro e1 (And.intro e2 e3)))
        have hbw := b_call HB4.out HBR.out
        have HZ := Lib.hid (And.intro hb1 hb2)
        have q1 := ((bcell HBR.out).1 _ _ hb1).trans hc1
        have q1z : b1 < W7.heap.size := Nat.lt_of_lt_of_le hb1 HBR.out.size
        have q2z : b2 < W7.heap.size := Nat.lt_of_lt_of_le hb2 hbw.size
        have d3 := ((bcell hbw).1 _ _ hb2).trans e3
        obtain ⟨f0, f1⟩ := fact_at hr1.fr hF0
        have p1 := (hr1.ok 0 hF0).1
        have p2 := (hr1.ok 0 hF0).2.1
        rw [HFF.out.z] at p1 p2
        rw [p1] at f0
        obtain ⟨da, dc, edc, _, _, _⟩ := readI_row p2
        have edc2 : Value.slice F1[0].2.a F1[0].2.n F1[0].2.c = .slice da 0 dc := edc
        replace f1 := f1.trans (congrArg some edc2)
        have g1z := hr1.fr.1
        have y0 := ((bcell HBR.out).1 _ _ g1z).trans f0
        have y1 := ((bcell HBR.out).1 _ _ g1z).trans f1
        have g1y : g1 < W7.heap.size := Nat.lt_of_lt_of_le g1z HBR.out.size
        simp only [Option.isSome_some, Nat.zero_mul, Nat.zero_add] at y0 y1
        obtain ⟨⟨c0, c1, c2, c3⟩, cz⟩ := HK.out W7 hbw
        clear hr1 hc1 en hltM hlt1 hb1 hb2 e0 e1 e2 e3 hd hvr ec ec3 ec5 hcc1 hcc2 hN p1 p2 f0 f1 edc edc2 hbw g1z x1 x2
        go_wp2_with fail
        clear q1 q1z q2z d3 y0 y1 g1y c0 c1 c2 c3 cz
        go_loopw [71] (fun i w7 => ∃ k : Nat, i = .int .i64 k ∧ k ≤ N ∧ Hid (Below W4.heap.size W4 w7)) (fun i _ => N - (intOf i).toNat)
        case atStart => exact ⟨0, rfl, Nat.zero_le _, HBR⟩
        case round =>
          obtain ⟨W8, hW8⟩ : ∃ x, x = wr := ⟨_, rfl⟩
          subst hW8
          obtain ⟨k, rfl, hk, HB7⟩ := hrel
          have k0 : (0 : Int) ≤ k := by omega
          by_cases hkn : k < N
          · have k1 : (k : Int) < N := by omega
            have T1 := rowT_below HR1.out HB7.out
            have hk1 : k < F1.length := by rw [T1.lf]; exact hkn
            obtain ⟨f10, f11⟩ := fact_at T1.fr hk1
            have p1 := (T1.ok k hk1).1
            have p2 := (T1.ok k hk1).2.1
            have g1z := T1.fr.1
            rw [p1] at f10
            cases hm : M.getD k none with
            | none =>
              rw [hm] at f10
              simp only [Option.isSome_none] at f10
              clear p1 p2 T1
              generalize F1[k].2 = sl at *
              obtain ⟨sa, sn, sc⟩ := sl
              simp only at f11
              go_upto_region 15 with fail
              refine wp_named ?_
              intro W9 hW9
              have S9 : Blk W9 W8.heap.size [.bool false, .slice sa sn sc] ∧ Below W8.heap.size W8 W9 := by
                first
                | (rw [hW9]; exact ⟨blk_new _ _ _, b_alloc (Below.refl _ _) _⟩)
                | exact store2 rfl hW9
              have HB9 := Lib.hid (b_call HB7.out S9.2)
              obtain ⟨y0, y1, _⟩ := blk2 S9.1
              have yz := S9.1.1
              clear hW9 S9 f10 f11 g1z
              go_wp2_with fail
              go_roundw
              case rel => exact ⟨k + 1, by first | rfl | go_num, by omega, HB9⟩
              case measure => simp [intOf]; omega
            | some st =>
              rw [hm] at f10 p2
              simp only [Option.isSome_some] at f10
              have h16 := HFF.out.sm k st hm
              obtain ⟨hc0, hcl⟩ := HFF.out.cl k st hm
              have hkf : k < f.code.length := by rw [← HN.out]; exact hkn
              obtain ⟨HE1, HE2, HE3⟩ := eff_on HF2.out hkf hc0
              obtain ⟨da, dc, edc, hrd, _, _⟩ := readI_row p2
              have edc2 : Value.slice F1[k].2.a F1[k].2.n F1[k].2.c = .slice da st.length dc := edc
              replace f11 := f11.trans (congrArg some edc2)
              have HRD := Lib.hid hrd
              have hsi : (st.length : Int) ≤ 16 := by omega
              have HCL := Lib.hid (And.intro hc0 (And.intro hcl (And.intro HE1 (And.intro HE2 HE3))))
              clear p1 p2 T1 edc edc2 hrd hcl HE1 HE2 HE3 hc0
              go_upto_region 15 with fail
              refine wp_named ?_
              intro W9 hW9
              have S9 : Blk W9 W8.heap.size [.bool true, .slice da st.length dc] ∧ Below W8.heap.size W8 W9 := by
                first
                | (rw [hW9]; exact ⟨blk_new _ _ _, b_alloc (Below.refl _ _) _⟩)
                | exact store2 rfl hW9
              have HB89 := Lib.hid S9.2
              have HB9 := Lib.hid (b_call HB7.out S9.2)
              have HX9 := Lib.hid S9.1
              obtain ⟨y0, y1, _⟩ := blk2 S9.1
              have yz := S9.1.1
              have HS : Hid (∀ w', Below W9.heap.size W9 w' → (w'.cell? ⟨w.heap.size, 0, none⟩ = some (.bool qu) ∧ w'.cell? ⟨w.heap.size, 1, none⟩ = some (.slice qa qn qc) ∧ w'.cell? ⟨w.heap.size, 2, none⟩ = some (.int .i64 qm) ∧ w'.cell? ⟨w.heap.size, 3, none⟩ = some (.slice (some ⟨b2, o2, none⟩) C.fs.length rc)) ∧ (w'.cell? ⟨b2, o2 + j * 4, none⟩ = some (.slice pa pn pc) ∧ w'.cell? ⟨b2, o2 + j * 4 + 1, none⟩ = some (.slice la ln lc) ∧ w'.cell? ⟨b2, o2 + j * 4 + 2, none⟩ = some (.int .i64 r) ∧ w'.cell? ⟨b2, o2 + j * 4 + 3, none⟩ = some (.slice ca N cc)) ∧ w'.cell? ⟨W8.heap.size, 1, none⟩ = some (.slice da st.length dc)) := Lib.hid (fun w' hb => by
                have hw := b_call HB4.out (b_call HB9.out hb)
                have hc := (bcell hw).1
                obtain ⟨d0, d1, d2, d3⟩ := HE.out
                exact ⟨(HK.out w' hw).1, ⟨(hc _ _ HZ.out.2).trans d0, (hc _ _ HZ.out.2).trans d1, (hc _ _ HZ.out.2).trans d2, (hc _ _ HZ.out.2).trans d3⟩, (blk2 (blk_below HX9.out hb)).2.1⟩)
              clear hW9 S9 f10 f11 g1z
              go_upto_region 16 with fail
              clear y0 y1 yz
              refine wp_region_held_drew (S := fun w' => (w'.cell? ⟨w.heap.size, 0, none⟩ = some (.bool qu) ∧ w'.cell? ⟨w.heap.size, 1, none⟩ = some (.slice qa qn qc) ∧ w'.cell? ⟨w.heap.size, 2, none⟩ = some (.int .i64 qm) ∧ w'.cell? ⟨w.heap.size, 3, none⟩ = some (.slice (some ⟨b2, o2, none⟩) C.fs.length rc)) ∧ (w'.cell? ⟨b2, o2 + j * 4, none⟩ = some (.slice pa pn pc) ∧ w'.cell? ⟨b2, o2 + j * 4 + 1, none⟩ = some (.slice la ln lc) ∧ w'.cell? ⟨b2, o2 + j * 4 + 2, none⟩ = some (.int .i64 r) ∧ w'.cell? ⟨b2, o2 + j * 4 + 3, none⟩ = some (.slice ca N cc)) ∧ w'.cell? ⟨W8.heap.size, 1, none⟩ = some (.slice da st.length dc)) (by kernel_rfl) (HS.out _ (b_drew (Below.refl _ _))) (fun hHeld => ?_)
              (refine wpAnyH_take (i := 0) (v := ?_) rfl (by kernel_rfl) (by kernel_rfl) (by kernel_rfl) (fun _ _ _ h => h) (Or.inl ⟨by rfl, ?_⟩) hHeld ?_; rotate_left; (focus (intro w hSw; (try dsimp only at hSw); go_simp; try (with_reducible rfl))); (try simp only [Act.put, List.getElem_toArray, List.getElem_cons_succ, List.getElem_cons_zero, List.setIfInBounds_toArray, List.set_cons_zero, List.set_cons_succ]))
              (refine wpAnyH_take (i := 1) (v := ?_) rfl (by kernel_rfl) (by kernel_rfl) (by kernel_rfl) (fun _ _ _ h => h) (Or.inl ⟨by rfl, ?_⟩) hHeld ?_; rotate_left; (focus (intro w hSw; (try dsimp only at hSw); go_simp; try (with_reducible rfl))); (try simp only [Act.put, List.getElem_toArray, List.getElem_cons_succ, List.getElem_cons_zero, List.setIfInBounds_toArray, List.set_cons_zero, List.set_cons_succ]))
              (refine wpAnyH_take (i := 2) (v := ?_) rfl (by kernel_rfl) (by kernel_rfl) (by kernel_rfl) (fun _ _ _ h => h) (Or.inl ⟨by rfl, ?_⟩) hHeld ?_; rotate_left; (focus (intro w hSw; (try dsimp only at hSw); go_simp; try (with_reducible rfl))); (try simp only [Act.put, List.getElem_toArray, List.getElem_cons_succ, List.getElem_cons_zero, List.setIfInBounds_toArray, List.set_cons_zero, List.set_cons_succ]))
              (refine wpAnyH_take (i := 3) (v := ?_) rfl (by kernel_rfl) (by kernel_rfl) (by kernel_rfl) (fun _ _ _ h => h) (Or.inl ⟨by rfl, ?_⟩) hHeld ?_; rotate_left; (focus (intro w hSw; (try dsimp only at hSw); go_simp; try (with_reducible rfl))); (try simp only [Act.put, List.getElem_toArray, List.getElem_cons_succ, List.getElem_cons_zero, List.setIfInBounds_toArray, List.set_cons_zero, List.set_cons_succ]))
              (refine wpAnyH_take (i := 4) (v := ?_) rfl (by kernel_rfl) (by kernel_rfl) (by kernel_rfl) (fun _ _ _ h => h) (Or.inl ⟨by rfl, ?_⟩) hHeld ?_; rotate_left; (focus (intro w hSw; (try dsimp only at hSw); go_simp; try (with_reducible rfl))); (try simp only [Act.put, List.getElem_toArray, List.getElem_cons_succ, List.getElem_cons_zero, List.setIfInBounds_toArray, List.set_cons_zero, List.set_cons_succ]))
              (refine wpAnyH_take (i := 5) (v := ?_) rfl (by kernel_rfl) (by kernel_rfl) (by kernel_rfl) (fun _ _ _ h => h) (Or.inl ⟨by rfl, ?_⟩) hHeld ?_; rotate_left; (focus (intro w hSw; (try dsimp only at hSw); go_simp; try (with_reducible rfl))); (try simp only [Act.put, List.getElem_toArray, List.getElem_cons_succ, List.getElem_cons_zero, List.setIfInBounds_toArray, List.set_cons_zero, List.set_cons_succ]))
              (refine wpAnyH_take (i := 6) (v := ?_) rfl (by kernel_rfl) (by kernel_rfl) (by kernel_rfl) (fun _ _ _ h => h) (Or.inl ⟨by rfl, ?_⟩) hHeld ?_; rotate_left; (focus (intro w hSw; (try dsimp only at hSw); go_simp; try (with_reducible rfl))); (try simp only [Act.put, List.getElem_toArray, List.getElem_cons_succ, List.getElem_cons_zero, List.setIfInBounds_toArray, List.set_cons_zero, List.set_cons_succ]))
              (refine wpAnyH_take (i := 7) (v := ?_) rfl (by kernel_rfl) (by kernel_rfl) (by kernel_rfl) (fun _ _ _ h => h) (Or.inl ⟨by rfl, ?_⟩) hHeld ?_; rotate_left; (focus (intro w hSw; (try dsimp only at hSw); go_simp; try (with_reducible rfl))); (try simp only [Act.put, List.getElem_toArray, List.getElem_cons_succ, List.getElem_cons_zero, List.setIfInBounds_toArray, List.set_cons_zero, List.set_cons_succ]))
              (refine wpAnyH_take (i := 8) (v := ?_) rfl (by kernel_rfl) (by kernel_rfl) (by kernel_rfl) (fun _ _ _ h => h) (Or.inl ⟨by rfl, ?_⟩) hHeld ?_; rotate_left; (focus (intro w hSw; (try dsimp only at hSw); go_simp; try (with_reducible rfl))); (try simp only [Act.put, List.getElem_toArray, List.getElem_cons_succ, List.getElem_cons_zero, List.setIfInBounds_toArray, List.set_cons_zero, List.set_cons_succ]))
              refine wpAnyH_ready (rs := [9]) (by kernel_rfl) (by simp) (AllReadyH.cons rfl (fun K hK => ?_) AllReadyH.nil)
              go_simp
              refine (reff_any ⟨qu, ⟨qa, qn, qc⟩, qm, ⟨some ⟨b2, o2, none⟩, C.fs.length, rc⟩⟩ C ⟨⟨pa, pn, pc⟩, ⟨la, ln, lc⟩, r, ⟨ca, N, cc⟩⟩ f k da dc st _ (readP_below HR.out (b_drew (b_call HB4.out HB9.out))) HSP.out (deepF_below HD.out (b_drew (b_call HB4.out HB9.out))) HF1.out (readI_below HRD.out (b_drew HB89.out)) (by omega) hkf (by rw [← HN.out]; omega) HF2.out).mono ?_
              generalize effect C f k st = E at *
              rintro e w10 ⟨ba, bc, oa, oc, rfl, hrt, hrp, hb10, hok10⟩
              have HB10 := Lib.hid (b_call (b_drew (Below.refl W9.heap.size W9)) hb10)
              have HRT := Lib.hid hrt; have HRP := Lib.hid hrp
              clear hrt hrp hb10 hok10
              refine hK.out _ _ (HS.out _ HB10.out) (fun hHeld => ?_)
              clear hK K
              (try simp only [Act.put, List.getElem_toArray, List.getElem_cons_succ, List.getElem_cons_zero, List.setIfInBounds_toArray, List.set_cons_zero, List.set_cons_succ])
              (refine wpAnyH_take (i := 10) (v := ?_) rfl (by kernel_rfl) (by kernel_rfl) (by kernel_rfl) (fun _ _ _ h => h) (Or.inl ⟨by rfl, ?_⟩) hHeld ?_; rotate_left; (focus (intro w hSw; (try dsimp only at hSw); go_simp; try (with_reducible rfl))); (try simp only [Act.put, List.getElem_toArray, List.getElem_cons_succ, List.getElem_cons_zero, List.setIfInBounds_toArray, List.set_cons_zero, List.set_cons_succ]))
              (refine wpAnyH_take (i := 11) (v := ?_) rfl (by kernel_rfl) (by kernel_rfl) (by kernel_rfl) (fun _ _ _ h => h) (Or.inl ⟨by rfl, ?_⟩) hHeld ?_; rotate_left; (focus (intro w hSw; (try dsimp only at hSw); go_simp; try (with_reducible rfl))); (try simp only [Act.put, List.getElem_toArray, List.getElem_cons_succ, List.getElem_cons_zero, List.setIfInBounds_toArray, List.set_cons_zero, List.set_cons_succ]))
              (refine wpAnyH_take (i := 12) (v := ?_) rfl (by kernel_rfl) (by kernel_rfl) (by kernel_rfl) (fun _ _ _ h => h) (Or.inl ⟨by rfl, ?_⟩) hHeld ?_; rotate_left; (focus (intro w hSw; (try dsimp only at hSw); go_simp; try (with_reducible rfl))); (try simp only [Act.put, List.getElem_toArray, List.getElem_cons_succ, List.getElem_cons_zero, List.setIfInBounds_toArray, List.set_cons_zero, List.set_cons_succ]))
              (refine wpAnyH_take (i := 13) (v := ?_) rfl (by kernel_rfl) (by kernel_rfl) (by kernel_rfl) (fun _ _ _ h => h) (Or.inl ⟨by rfl, ?_⟩) hHeld ?_; rotate_left; (focus (intro w hSw; (try dsimp only at hSw); go_simp; try (with_reducible rfl))); (try simp only [Act.put, List.getElem_toArray, List.getElem_cons_succ, List.getElem_cons_zero, List.setIfInBounds_toArray, List.set_cons_zero, List.set_cons_succ]))
              (refine wpAnyH_take (i := 14) (v := ?_) rfl (by kernel_rfl) (by kernel_rfl) (by kernel_rfl) (fun _ _ _ h => h) (Or.inl ⟨by rfl, ?_⟩) hHeld ?_; rotate_left; (focus (intro w hSw; (try dsimp only at hSw); go_simp; try (with_reducible rfl))); (try simp only [Act.put, List.getElem_toArray, List.getElem_cons_succ, List.getElem_cons_zero, List.setIfInBounds_toArray, List.set_cons_zero, List.set_cons_succ]))
              (refine wpAnyH_take (i := 15) (v := ?_) rfl (by kernel_rfl) (by kernel_rfl) (by kernel_rfl) (fun _ _ _ h => h) (Or.inl ⟨by rfl, ?_⟩) hHeld ?_; rotate_left; (focus (intro w hSw; (try dsimp only at hSw); go_simp; try (with_reducible rfl))); (try simp only [Act.put, List.getElem_toArray, List.getElem_cons_succ, List.getElem_cons_zero, List.setIfInBounds_toArray, List.set_cons_zero, List.set_cons_succ]))
              (refine wpAnyH_take (i := 16) (v := ?_) rfl (by kernel_rfl) (by kernel_rfl) (by kernel_rfl) (fun _ _ _ h => h) (Or.inl ⟨by rfl, ?_⟩) hHeld ?_; rotate_left; (focus (intro w hSw; (try dsimp only at hSw); go_simp; try (with_reducible rfl))); (try simp only [Act.put, List.getElem_toArray, List.getElem_cons_succ, List.getElem_cons_zero, List.setIfInBounds_toArray, List.set_cons_zero, List.set_cons_succ]))
              refine wpAnyH_done (by kernel_rfl) ?_ _
              obtain ⟨y0, y1, _⟩ := blk2 (blk_below HX9.out HB10.out)
              have yz := (blk_below HX9.out HB10.out).1
              have hpl : (E.p.length : Int) ≤ 2 := by have := HCL.out.2.2.2.2; omega
              have hoc1 : (E.p.length : Int) ≤ oc := by have := (int_len (s := ⟨oa, E.p.length, oc⟩) HRP.out).2.1; simp only at this; omega
              have hoc2 : (oc : Int) ≤ 9223372036854775807 := by have := (int_len (s := ⟨oa, E.p.length, oc⟩) HRP.out).2.2; simp only at this; omega
              rw [HCL.out.1]
              have HB410 := Lib.hid (b_call HB9.out HB10.out)
              go_wp2_with fail
              clear y0 y1 yz
              go_loopw [103] (fun i w5 => ∃ i9 : Nat, i = .int .i64 i9 ∧ i9 ≤ E.p.length ∧ Hid (Below w10.heap.size w10 w5)) (fun i _ => E.p.length - (intOf i).toNat)
              case atStart => exact ⟨0, rfl, Nat.zero_le _, Lib.hid (Below.refl _ _)⟩
              case round =>
                obtain ⟨i9, rfl, hi9, HB11⟩ := hrel
                have i0 : (0 : Int) ≤ i9 := by omega
                by_cases hi : i9 < E.p.length
                · have i1 : (i9 : Int) < E.p.length := by omega
                  obtain ⟨bl, off, cp, e1, r1, r2, hbl, r4⟩ := readI_pos (readI_below HRP.out HB11.out) (by omega)
                  injection e1 with e1 _ e3
                  subst e1
                  have hcx := r4 i9 hi
                  rw [List.getD_eq_getElem?_getD, List.getElem?_eq_getElem hi, Option.getD_some] at hcx
                  obtain ⟨xx0, xx1⟩ := HCL.out.2.2.1 _ (List.getElem_mem hi)
                  have hmx := HCL.out.2.1 _ (List.getElem_mem hi)
                  generalize E.p[i9] = xi at *
                  obtain ⟨x, rfl⟩ : ∃ x : Nat, xi = x := ⟨xi.toNat, by omega⟩
                  have hmx : M.getD x none = some E.t := hmx
                  have hx : x < N := by rw [HN.out]; omega
                  have x0 : (0 : Int) ≤ x := by omega
                  have x1 : (x : Int) < N := by omega
                  have T2 := rowT_below HR1.out (b_call HB410.out HB11.out)
                  have hx1 : x < F1.length := by rw [T2.lf]; exact hx
                  obtain ⟨f20, f21⟩ := fact_at T2.fr hx1
                  have p1 := (T2.ok x hx1).1
                  have p2 := (T2.ok x hx1).2.1
                  rw [hmx] at p1 p2
                  rw [p1] at f20
                  simp only [Option.isSome_some] at f20
                  obtain ⟨ka, kc, ekc, hkd, _, _⟩ := readI_row p2
                  have ekc2 : Value.slice F1[x].2.a F1[x].2.n F1[x].2.c = .slice ka E.t.length kc := ekc
                  replace f21 := f21.trans (congrArg some ekc2)
                  have g1z := T2.fr.1
                  have HRS := Lib.hid (rsame_self2 (.slice ka E.t.length kc) (.slice ba E.t.length bc) E.t wr hkd (readI_below HRT.out HB11.out) (by have := HCL.out.2.2.2.1; omega))
                  clear r4 e3 xx0 xx1 hx hx1 hmx p1 p2 T2 ekc ekc2 hkd
                  go_wp2_with fail
                  refine HRS.out.mono ?_
                  rintro e w12 ⟨rfl, hb12⟩
                  have HB12 := Lib.hid (b_call HB11.out hb12)
                  clear hb12 f20 f21 g1z hcx hbl
                  go_wp2_with fail
                  go_roundw
                  case rel => exact ⟨i9 + 1, by first | rfl | go_num, by omega, HB12⟩
                  case measure => simp [intOf]; omega
                · have i1 : ¬ ((i9 : Int) < E.p.length) := by omega
                  have HBZ := Lib.hid (b_call HB410.out HB11.out)
                  go_wp2_with fail
                  go_roundw
                  case rel => exact ⟨k + 1, by first | rfl | go_num, by omega, HBZ⟩
                  case measure => simp [intOf]; omega
          · have k1 : ¬ ((k : Int) < N) := by omega
            go_wp2_with fail
            go_roundw
            case rel => exact ⟨j + 1, by first | rfl | go_num, by omega, HB7⟩
            case measure => simp [intOf]; omega
      · have j1 : ¬ ((j : Int) < C.fs.length) := by omega
        go_wp2_with fail
        refine (awake26 _).mono ?_
        rintro e w9 ⟨rfl, hb9⟩
        have HB9 := Lib.hid hb9
        clear hb9
        go_wp2_with fail
        go_ret
        exact ⟨rfl, b_call HBW.out (b_call HB4.out (b_call HBR.out HB9.out))⟩
end Go.Proofs.Ytdmidnmciaediaa
