/- SlabWhole, walked. Conditions: the numbers are of their kinds; the calls read as a row. -/
import Derived.Test.YtgbbnmjfkhconaaSlaA
namespace Go.Proofs.Ytgbbnmjfkhconaa
open Go.RowKit
set_option linter.unusedVariables false
set_option linter.unusedSimpArgs false
attribute [local go_sem] over_cell over_frozen
variable {w w' : World} {b : SlB} {m : SlM} {P Z N : Nat} {fl : List Nat}
set_option maxRecDepth 100000 in
set_option maxHeartbeats 16000000 in
theorem slabWhole_any (seed cl0 : Int) (u : Value) (M : List Op7) (s0 : 0 ≤ seed) (s1 : seed < 18446744073709551616) (w : World) (hM : ReadR op7 w u M) : Calls Try.prog 9 #[.int .u64 seed, .int .i64 cl0, u] w fun e w' => e = .returned (.bool true) ∧ Below w.heap.size w w' := by
  obtain ⟨cl, Z, N, ecl, hz⟩ := cls_and cl0
  have HLM := Lib.hid (lmake7 seed cl 9 s0 s1 (by omega) hz w)
  have HN16 := Lib.hid (cls_bd hz).2.2.2.1
  obtain ⟨ua, uc, rfl, m2, m3⟩ := readR_len hM
  have hucap := cap_le m3
  have HM := Lib.hid hM
  clear hz s0 s1 hM m3
  go_enter Try.func9, Try.ntmps9
  go_wp2_with fail
  refine HLM.out.mono ?_
  rintro e w1 ⟨p, rs, b, m, rfl, hp, hg, _, hnew, hnp, hb1⟩
  have H1 := Lib.hid (show W7 w w1 p rs b Z N m (List.range N) from ⟨hg, hp, hnp, hnew, hb1⟩)
  clear hp hg hnew hnp hb1 HLM
  unfold tp
  go_wp2_with fail
  go_loopw [8, 23] (fun lv iv wr => ∃ j : Nat, j ≤ M.length ∧ iv = .int .i64 j ∧ (∃ lst : Int, lv = .int .i64 lst ∧ -1 ≤ lst ∧ lst ≤ 65536 ∧ Hid (∃ m fl, W7 w wr p rs b Z N m fl ∧ LastOk lst fl))) (fun _ iv _ => M.length - (intOf iv).toNat)
  case atStart => exact ⟨0, Nat.zero_le _, rfl, ⟨-1, rfl, by omega, by omega, Lib.hid ⟨m, _, H1.out, Or.inl rfl⟩⟩⟩
  case round =>
    clear H1
    obtain ⟨W1, hW1⟩ : ∃ x, x = wr := ⟨_, rfl⟩
    subst hW1
    obtain ⟨j, hj, rfl, ⟨lst, rfl, hl0, hl9, HMF⟩⟩ := hrel
    obtain ⟨m, fl, hw7, hlo⟩ := HMF.out
    have H1 := Lib.hid hw7
    have HLO := Lib.hid hlo
    clear hw7 hlo HMF
    have j0 : (0 : Int) ≤ j := by omega
    by_cases hlt : j < M.length
    · have j1 : (j : Int) < M.length := by omega
      have jc : (j : Int) < uc := by omega
      obtain ⟨bl, off, cp, e1, r1, r2, hbl, r4⟩ := readR_pos (readR_below HM.out H1.out.be) (by omega)
      injection e1 with e1 e1b e3
      subst e1
      have d0 : W1.cell? ⟨bl, off + j * 4, none⟩ = some (.int .i64 M[j].kind) := r4 j hlt 0 (by decide)
      have d1 : W1.cell? ⟨bl, off + j * 4 + 1, none⟩ = some (.int .i64 M[j].k) := r4 j hlt 1 (by decide)
      have d2 : W1.cell? ⟨bl, off + j * 4 + 2, none⟩ = some (.int .i64 M[j].at_) := r4 j hlt 2 (by decide)
      have d3 : W1.cell? ⟨bl, off + j * 4 + 3, none⟩ = some (.slice M[j].s.a M[j].s.n M[j].s.c) := r4 j hlt 3 (by decide)
      generalize M[j] = o at *
      obtain ⟨kd, ok, oa, ⟨sa, sn, sc⟩⟩ := o
      simp only at d0 d1 d2 d3
      clear r4 r1 r2 e1b e3
      go_upto_region 8 with fail
      refine wp_named ?_
      intro W2 hW2
      have HX2 : Hid (Blk W2 W1.heap.size [.int .i64 kd, .int .i64 ok, .int .i64 oa, .slice sa sn sc]) := Lib.hid (by rw [hW2]; exact blk_new _ _ _)
      have hB12 : Below W1.heap.size W1 W2 := by rw [hW2]; exact b_alloc (Below.refl _ _) _
      have H2 := Lib.hid (w7_below H1.out hB12)
      have HNQ : Hid (¬ slX b W1.heap.size) := Lib.hid (fun q => by have := slx_lt H1.out.g.a _ q; omega)
      clear hW2 d0 d1 d2 d3 hbl hB12 H1
      by_cases h50 : (j : Int) ≥ 50
      · go_wp2_with fail
        refine (awake7 _).mono ?_
        rintro e w5 ⟨rfl, hb5⟩
        have HB5 := Lib.hid (b_call H2.out.be hb5)
        clear hb5
        go_wp2_with fail
        go_ret
        exact ⟨rfl, HB5.out⟩
      obtain ⟨p0, p1, p2, _⟩ := blk3 H2.out.pr
      have pz := H2.out.pr.1
      unfold sp at p1
      obtain ⟨x0, x1, x2, x3, xf⟩ := blk4 HX2.out
      have xz := HX2.out.1
      rcases (show kd = 0 ∨ kd = 1 ∨ kd = 2 ∨ kd = 3 ∨ kd = 4 ∨ kd = 5 ∨ kd = 6 ∨ (kd ≠ 0 ∧ kd ≠ 1 ∧ kd ≠ 2 ∧ kd ≠ 3 ∧ kd ≠ 4 ∧ kd ≠ 5 ∧ kd ≠ 6) by omega) with rfl | rfl | rfl | rfl | rfl | rfl | rfl | ⟨k0, k1, k2, k3, k4, k5, k6⟩
      · skip
        cases fl with
        | nil =>
          have hl1 : lst = -1 := by
            rcases HLO.out with q | ⟨k, rest, _, q⟩
            · exact q
            · cases q
          subst hl1
          have HT := Lib.hid (stake_none H2.out.g.a H2.out.g.g)
          unfold sp at HT
          go_wp2_with fail
          refine HT.out.mono ?_
          rintro e w4 ⟨rfl, rfl⟩
          clear p0 p1 p2 pz HT x0 x1 x2 x3 xf xz
          obtain ⟨p0, p1, p2, _⟩ := blk3 H2.out.pr
          have pz := H2.out.pr.1
          unfold sp at p1
          have HCK := Lib.hid (scheck_any H2.out.g.a H2.out.g.g)
          unfold sp at HCK
          go_wp2_with fail
          refine HCK.out.mono ?_
          rintro e wz ⟨rfl, hbz⟩
          have HZ := Lib.hid (w7_below H2.out hbz)
          clear hbz p0 p1 p2 pz HCK
          go_wp2_with fail
          go_roundw
          case rel => exact ⟨j + 1, by omega, by first | rfl | go_num, ⟨-1, by first | rfl | go_num, by omega, by omega, Lib.hid ⟨_, _, HZ.out, Or.inl rfl⟩⟩⟩
          case measure => simp [intOf] <;> omega
        | cons k rest =>
          have HT := Lib.hid (stake_any H2.out.g.a H2.out.g.g)
          have hl2 : lst = -1 ∨ lst = (k : Int) := by
            rcases HLO.out with q | ⟨k', rest', q1, q2⟩
            · exact Or.inl q
            · injection q2 with q2 _
              rw [q2]; exact Or.inr q1
          have hk0 : (0 : Int) ≤ k := by omega
          have hkk : ((k : Int) != k) = false := by simp
          unfold sp at HT
          rcases hl2 with rfl | rfl
          · go_wp2_with fail
            refine HT.out.mono ?_
            rintro e w4 ⟨rfl, ha4, hg4⟩
            have H4 := Lib.hid (w7_turn H2.out ha4 (good_take H2.out.g.g).1 hg4)
            clear ha4 hg4 p0 p1 p2 pz HT x0 x1 x2 x3 xf xz
            obtain ⟨p0, p1, p2, _⟩ := blk3 H4.out.pr
            have pz := H4.out.pr.1
            unfold sp at p1
            have HCK := Lib.hid (scheck_any H4.out.g.a H4.out.g.g)
            unfold sp at HCK
            go_wp2_with fail
            refine HCK.out.mono ?_
            rintro e wz ⟨rfl, hbz⟩
            have HZ := Lib.hid (w7_below H4.out hbz)
            clear hbz p0 p1 p2 pz HCK
            go_wp2_with fail
            go_roundw
            case rel => exact ⟨j + 1, by omega, by first | rfl | go_num, ⟨-1, by first | rfl | go_num, by omega, by omega, Lib.hid ⟨_, _, HZ.out, Or.inl rfl⟩⟩⟩
            case measure => simp [intOf] <;> omega
          · go_wp2_with fail
            refine HT.out.mono ?_
            rintro e w4 ⟨rfl, ha4, hg4⟩
            have H4 := Lib.hid (w7_turn H2.out ha4 (good_take H2.out.g.g).1 hg4)
            clear ha4 hg4 p0 p1 p2 pz HT x0 x1 x2 x3 xf xz
            obtain ⟨p0, p1, p2, _⟩ := blk3 H4.out.pr
            have pz := H4.out.pr.1
            unfold sp at p1
            have HCK := Lib.hid (scheck_any H4.out.g.a H4.out.g.g)
            unfold sp at HCK
            go_wp2_with fail
            refine HCK.out.mono ?_
            rintro e wz ⟨rfl, hbz⟩
            have HZ := Lib.hid (w7_below H4.out hbz)
            clear hbz p0 p1 p2 pz HCK
            go_wp2_with fail
            go_roundw
            case rel => exact ⟨j + 1, by omega, by first | rfl | go_num, ⟨-1, by first | rfl | go_num, by omega, by omega, Lib.hid ⟨_, _, HZ.out, Or.inl rfl⟩⟩⟩
            case measure => simp [intOf] <;> omega
      · skip
        cases fl with
        | nil =>
          have hl1 : lst = -1 := by
            rcases HLO.out with q | ⟨k, rest, _, q⟩
            · exact q
            · cases q
          subst hl1
          have HT := Lib.hid (stake_none H2.out.g.a H2.out.g.g)
          unfold sp at HT
          go_wp2_with fail
          refine HT.out.mono ?_
          rintro e w4 ⟨rfl, rfl⟩
          clear p0 p1 p2 pz HT x0 x1 x2 x3 xf xz
          obtain ⟨p0, p1, p2, _⟩ := blk3 H2.out.pr
          have pz := H2.out.pr.1
          unfold sp at p1
          have HCK := Lib.hid (scheck_any H2.out.g.a H2.out.g.g)
          unfold sp at HCK
          go_wp2_with fail
          refine HCK.out.mono ?_
          rintro e wz ⟨rfl, hbz⟩
          have HZ := Lib.hid (w7_below H2.out hbz)
          clear hbz p0 p1 p2 pz HCK
          go_wp2_with fail
          go_roundw
          case rel => exact ⟨j + 1, by omega, by first | rfl | go_num, ⟨-1, by first | rfl | go_num, by omega, by omega, Lib.hid ⟨_, _, HZ.out, Or.inl rfl⟩⟩⟩
          case measure => simp [intOf] <;> omega
        | cons k rest =>
          have HT := Lib.hid (stake_any H2.out.g.a H2.out.g.g)
          have hl2 : lst = -1 ∨ lst = (k : Int) := by
            rcases HLO.out with q | ⟨k', rest', q1, q2⟩
            · exact Or.inl q
            · injection q2 with q2 _
              rw [q2]; exact Or.inr q1
          have hk0 : (0 : Int) ≤ k := by omega
          have hkk : ((k : Int) != k) = false := by simp
          unfold sp at HT
          rcases hl2 with rfl | rfl
          · go_wp2_with fail
            refine HT.out.mono ?_
            rintro e w4 ⟨rfl, ha4, hg4⟩
            have H4 := Lib.hid (w7_turn H2.out ha4 (good_take H2.out.g.g).1 hg4)
            clear ha4 hg4 p0 p1 p2 pz HT x0 x1 x2 x3 xf xz
            obtain ⟨p0, p1, p2, _⟩ := blk3 H4.out.pr
            have pz := H4.out.pr.1
            unfold sp at p1
            have HCK := Lib.hid (scheck_any H4.out.g.a H4.out.g.g)
            unfold sp at HCK
            go_wp2_with fail
            refine HCK.out.mono ?_
            rintro e wz ⟨rfl, hbz⟩
            have HZ := Lib.hid (w7_below H4.out hbz)
            clear hbz p0 p1 p2 pz HCK
            go_wp2_with fail
            go_roundw
            case rel => exact ⟨j + 1, by omega, by first | rfl | go_num, ⟨-1, by first | rfl | go_num, by omega, by omega, Lib.hid ⟨_, _, HZ.out, Or.inl rfl⟩⟩⟩
            case measure => simp [intOf] <;> omega
          · go_wp2_with fail
            refine HT.out.mono ?_
            rintro e w4 ⟨rfl, ha4, hg4⟩
            have H4 := Lib.hid (w7_turn H2.out ha4 (good_take H2.out.g.g).1 hg4)
            clear ha4 hg4 p0 p1 p2 pz HT x0 x1 x2 x3 xf xz
            obtain ⟨p0, p1, p2, _⟩ := blk3 H4.out.pr
            have pz := H4.out.pr.1
            unfold sp at p1
            have HCK := Lib.hid (scheck_any H4.out.g.a H4.out.g.g)
            unfold sp at HCK
            go_wp2_with fail
            refine HCK.out.mono ?_
            rintro e wz ⟨rfl, hbz⟩
            have HZ := Lib.hid (w7_below H4.out hbz)
            clear hbz p0 p1 p2 pz HCK
            go_wp2_with fail
            go_roundw
            case rel => exact ⟨j + 1, by omega, by first | rfl | go_num, ⟨-1, by first | rfl | go_num, by omega, by omega, Lib.hid ⟨_, _, HZ.out, Or.inl rfl⟩⟩⟩
            case measure => simp [intOf] <;> omega
      · skip
        cases fl with
        | nil =>
          have hl1 : lst = -1 := by
            rcases HLO.out with q | ⟨k, rest, _, q⟩
            · exact q
            · cases q
          subst hl1
          have HT := Lib.hid (stake_none H2.out.g.a H2.out.g.g)
          unfold sp at HT
          go_wp2_with fail
          refine HT.out.mono ?_
          rintro e w4 ⟨rfl, rfl⟩
          clear p0 p1 p2 pz HT x0 x1 x2 x3 xf xz
          obtain ⟨p0, p1, p2, _⟩ := blk3 H2.out.pr
          have pz := H2.out.pr.1
          unfold sp at p1
          have HCK := Lib.hid (scheck_any H2.out.g.a H2.out.g.g)
          unfold sp at HCK
          go_wp2_with fail
          refine HCK.out.mono ?_
          rintro e wz ⟨rfl, hbz⟩
          have HZ := Lib.hid (w7_below H2.out hbz)
          clear hbz p0 p1 p2 pz HCK
          go_wp2_with fail
          go_roundw
          case rel => exact ⟨j + 1, by omega, by first | rfl | go_num, ⟨-1, by first | rfl | go_num, by omega, by omega, Lib.hid ⟨_, _, HZ.out, Or.inl rfl⟩⟩⟩
          case measure => simp [intOf] <;> omega
        | cons k rest =>
          have HT := Lib.hid (stake_any H2.out.g.a H2.out.g.g)
          have hl2 : lst = -1 ∨ lst = (k : Int) := by
            rcases HLO.out with q | ⟨k', rest', q1, q2⟩
            · exact Or.inl q
            · injection q2 with q2 _
              rw [q2]; exact Or.inr q1
          have hk0 : (0 : Int) ≤ k := by omega
          have hkk : ((k : Int) != k) = false := by simp
          unfold sp at HT
          rcases hl2 with rfl | rfl
          · go_wp2_with fail
            refine HT.out.mono ?_
            rintro e w4 ⟨rfl, ha4, hg4⟩
            have H4 := Lib.hid (w7_turn H2.out ha4 (good_take H2.out.g.g).1 hg4)
            clear ha4 hg4 p0 p1 p2 pz HT x0 x1 x2 x3 xf xz
            obtain ⟨p0, p1, p2, _⟩ := blk3 H4.out.pr
            have pz := H4.out.pr.1
            unfold sp at p1
            have HCK := Lib.hid (scheck_any H4.out.g.a H4.out.g.g)
            unfold sp at HCK
            go_wp2_with fail
            refine HCK.out.mono ?_
            rintro e wz ⟨rfl, hbz⟩
            have HZ := Lib.hid (w7_below H4.out hbz)
            clear hbz p0 p1 p2 pz HCK
            go_wp2_with fail
            go_roundw
            case rel => exact ⟨j + 1, by omega, by first | rfl | go_num, ⟨-1, by first | rfl | go_num, by omega, by omega, Lib.hid ⟨_, _, HZ.out, Or.inl rfl⟩⟩⟩
            case measure => simp [intOf] <;> omega
          · go_wp2_with fail
            refine HT.out.mono ?_
            rintro e w4 ⟨rfl, ha4, hg4⟩
            have H4 := Lib.hid (w7_turn H2.out ha4 (good_take H2.out.g.g).1 hg4)
            clear ha4 hg4 p0 p1 p2 pz HT x0 x1 x2 x3 xf xz
            obtain ⟨p0, p1, p2, _⟩ := blk3 H4.out.pr
            have pz := H4.out.pr.1
            unfold sp at p1
            have HCK := Lib.hid (scheck_any H4.out.g.a H4.out.g.g)
            unfold sp at HCK
            go_wp2_with fail
            refine HCK.out.mono ?_
            rintro e wz ⟨rfl, hbz⟩
            have HZ := Lib.hid (w7_below H4.out hbz)
            clear hbz p0 p1 p2 pz HCK
            go_wp2_with fail
            go_roundw
            case rel => exact ⟨j + 1, by omega, by first | rfl | go_num, ⟨-1, by first | rfl | go_num, by omega, by omega, Lib.hid ⟨_, _, HZ.out, Or.inl rfl⟩⟩⟩
            case measure => simp [intOf] <;> omega
      · skip
        have HSH : Hid (∀ w', GrowX W2 w' (slX b) → (w'.cell? ⟨p, 1, none⟩ = some (.pointer (some ⟨b.s, 0, none⟩)) ∧ w'.cell? ⟨W1.heap.size, 1, none⟩ = some (.int .i64 ok))) := Lib.hid (fun w' hg => by
          have z1 := (blk_gx H2.out.pr hg H2.out.np).2.1 1 (by simp)
          have z2 := (blk_gx HX2.out hg HNQ.out).2.1 1 (by simp)
          exact ⟨by simpa [sp] using z1, by simpa using z2⟩)
        have H2d := Lib.hid (w7_below H2.out (b_drew (Below.refl W2.heap.size W2)))
        by_cases hst : stI m ok = 1
        · obtain ⟨kk, ek, hkN, hkl⟩ := good_st1 H2.out.g.g hst
          have HD := Lib.hid (sdrop_yes H2d.out.g.a H2d.out.g.g hkN hkl)
          rw [← ek] at HD
          have HEK := Lib.hid ek
          clear ek
          unfold sp at HD
          go_upto_region 19 with fail
          clear p0 p1 p2 pz x0 x1 x2 x3 xf xz
          refine wp_region_held_drew (S := fun w' => (w'.cell? ⟨p, 1, none⟩ = some (.pointer (some ⟨b.s, 0, none⟩)) ∧ w'.cell? ⟨W1.heap.size, 1, none⟩ = some (.int .i64 ok))) (by kernel_rfl) (HSH.out _ (gx_below (b_drew (Below.refl _ _)) _)) (fun hHeld => ?_)
          refine atI 0 ?_
          iterate 6 (refine takeN (v := ?_) rfl (by rfl) ?_ hHeld ?_; rotate_left; (focus (intro w hSw; (try dsimp only at hSw); go_simp; try (with_reducible rfl))); (try simp only [Act.put, Nat.reduceAdd, List.getElem_toArray, List.getElem_cons_succ, List.getElem_cons_zero, List.setIfInBounds_toArray, List.set_cons_zero, List.set_cons_succ]))
          refine atIo ?_
          refine wpAnyH_ready (rs := [6]) (by kernel_rfl) (by simp) (AllReadyH.cons rfl (fun K hK => ?_) AllReadyH.nil)
          go_simp
          refine HD.out.mono ?_
          rintro e w4 ⟨rfl, ha4, hg4⟩
          have H4 := Lib.hid (w7_turn H2d.out ha4 (good_drop H2d.out.g.g hkN hkl).1 hg4)
          have HG4 := Lib.hid (gx_pre (b_drew (Below.refl W2.heap.size W2)) hg4)
          clear ha4 hg4
          refine hK.out _ _ (HSH.out _ HG4.out) (fun hHeld => ?_)
          clear hK K
          (try simp only [Act.put, List.getElem_toArray, List.getElem_cons_succ, List.getElem_cons_zero, List.setIfInBounds_toArray, List.set_cons_zero, List.set_cons_succ])
          refine atI 7 ?_
          iterate 5 (refine takeN (v := ?_) rfl (by rfl) ?_ hHeld ?_; rotate_left; (focus (intro w hSw; (try dsimp only at hSw); go_simp; try (with_reducible rfl))); (try simp only [Act.put, Nat.reduceAdd, List.getElem_toArray, List.getElem_cons_succ, List.getElem_cons_zero, List.setIfInBounds_toArray, List.set_cons_zero, List.set_cons_succ]))
          refine atIo ?_
          refine wpAnyH_done (by kernel_rfl) ?_ _
          clear hst
          obtain ⟨p0, p1, p2, _⟩ := blk3 H4.out.pr
          have pz := H4.out.pr.1
          unfold sp at p1
          have HCK := Lib.hid (scheck_any H4.out.g.a H4.out.g.g)
          unfold sp at HCK
          go_wp2_with fail
          refine HCK.out.mono ?_
          rintro e wz ⟨rfl, hbz⟩
          have HZ := Lib.hid (w7_below H4.out hbz)
          clear hbz p0 p1 p2 pz HCK
          go_wp2_with fail
          go_roundw
          case rel => exact ⟨j + 1, by omega, by first | rfl | go_num, ⟨lst, by first | rfl | go_num, by omega, by omega, Lib.hid ⟨_, _, HZ.out, HLO.out⟩⟩⟩
          case measure => simp [intOf] <;> omega
        · have HD := Lib.hid (sdrop_no H2d.out.g.a ok hst)
          have hme : (mustE m ok 1 == 0) = false := by rcases mustE_no hst with q | q <;> rw [q] <;> rfl
          generalize mustE m ok 1 = me at *
          unfold sp at HD
          go_upto_region 19 with fail
          clear p0 p1 p2 pz x0 x1 x2 x3 xf xz
          refine wp_region_held_drew (S := fun w' => (w'.cell? ⟨p, 1, none⟩ = some (.pointer (some ⟨b.s, 0, none⟩)) ∧ w'.cell? ⟨W1.heap.size, 1, none⟩ = some (.int .i64 ok))) (by kernel_rfl) (HSH.out _ (gx_below (b_drew (Below.refl _ _)) _)) (fun hHeld => ?_)
          refine atI 0 ?_
          iterate 6 (refine takeN (v := ?_) rfl (by rfl) ?_ hHeld ?_; rotate_left; (focus (intro w hSw; (try dsimp only at hSw); go_simp; try (with_reducible rfl))); (try simp only [Act.put, Nat.reduceAdd, List.getElem_toArray, List.getElem_cons_succ, List.getElem_cons_zero, List.setIfInBounds_toArray, List.set_cons_zero, List.set_cons_succ]))
          refine atIo ?_
          refine wpAnyH_ready (rs := [6]) (by kernel_rfl) (by simp) (AllReadyH.cons rfl (fun K hK => ?_) AllReadyH.nil)
          go_simp
          refine HD.out.mono ?_
          rintro e w4 ⟨rfl, rfl⟩
          refine hK.out _ _ (HSH.out _ (gx_below (b_drew (Below.refl _ _)) _)) (fun hHeld => ?_)
          clear hK K
          (try simp only [Act.put, List.getElem_toArray, List.getElem_cons_succ, List.getElem_cons_zero, List.setIfInBounds_toArray, List.set_cons_zero, List.set_cons_succ])
          refine atI 7 ?_
          iterate 5 (refine takeN (v := ?_) rfl (by rfl) ?_ hHeld ?_; rotate_left; (focus (intro w hSw; (try dsimp only at hSw); go_simp; try (with_reducible rfl))); (try simp only [Act.put, Nat.reduceAdd, List.getElem_toArray, List.getElem_cons_succ, List.getElem_cons_zero, List.setIfInBounds_toArray, List.set_cons_zero, List.set_cons_succ]))
          refine atIo ?_
          refine wpAnyH_done (by kernel_rfl) ?_ _
          clear hst
          obtain ⟨p0, p1, p2, _⟩ := blk3 H2d.out.pr
          have pz := H2d.out.pr.1
          unfold sp at p1
          have HCK := Lib.hid (scheck_any H2d.out.g.a H2d.out.g.g)
          unfold sp at HCK
          go_wp2_with fail
          refine HCK.out.mono ?_
          rintro e wz ⟨rfl, hbz⟩
          have HZ := Lib.hid (w7_below H2d.out hbz)
          clear hbz p0 p1 p2 pz HCK
          go_wp2_with fail
          go_roundw
          case rel => exact ⟨j + 1, by omega, by first | rfl | go_num, ⟨lst, by first | rfl | go_num, by omega, by omega, Lib.hid ⟨_, _, HZ.out, HLO.out⟩⟩⟩
          case measure => simp [intOf] <;> omega
      · skip
        have HSH : Hid (∀ w', GrowX W2 w' (slX b) → (w'.cell? ⟨p, 1, none⟩ = some (.pointer (some ⟨b.s, 0, none⟩)) ∧ w'.cell? ⟨W1.heap.size, 1, none⟩ = some (.int .i64 ok))) := Lib.hid (fun w' hg => by
          have z1 := (blk_gx H2.out.pr hg H2.out.np).2.1 1 (by simp)
          have z2 := (blk_gx HX2.out hg HNQ.out).2.1 1 (by simp)
          exact ⟨by simpa [sp] using z1, by simpa using z2⟩)
        have H2d := Lib.hid (w7_below H2.out (b_drew (Below.refl W2.heap.size W2)))
        by_cases hst : stI m ok = 1
        · obtain ⟨kk, ek, hkN, hkl⟩ := good_st1 H2.out.g.g hst
          have HD := Lib.hid (sdrop_yes H2d.out.g.a H2d.out.g.g hkN hkl)
          rw [← ek] at HD
          have HEK := Lib.hid ek
          clear ek
          unfold sp at HD
          go_upto_region 19 with fail
          clear p0 p1 p2 pz x0 x1 x2 x3 xf xz
          refine wp_region_held_drew (S := fun w' => (w'.cell? ⟨p, 1, none⟩ = some (.pointer (some ⟨b.s, 0, none⟩)) ∧ w'.cell? ⟨W1.heap.size, 1, none⟩ = some (.int .i64 ok))) (by kernel_rfl) (HSH.out _ (gx_below (b_drew (Below.refl _ _)) _)) (fun hHeld => ?_)
          refine atI 0 ?_
          iterate 6 (refine takeN (v := ?_) rfl (by rfl) ?_ hHeld ?_; rotate_left; (focus (intro w hSw; (try dsimp only at hSw); go_simp; try (with_reducible rfl))); (try simp only [Act.put, Nat.reduceAdd, List.getElem_toArray, List.getElem_cons_succ, List.getElem_cons_zero, List.setIfInBounds_toArray, List.set_cons_zero, List.set_cons_succ]))
          refine atIo ?_
          refine wpAnyH_ready (rs := [6]) (by kernel_rfl) (by simp) (AllReadyH.cons rfl (fun K hK => ?_) AllReadyH.nil)
          go_simp
          refine HD.out.mono ?_
          rintro e w4 ⟨rfl, ha4, hg4⟩
          have H4 := Lib.hid (w7_turn H2d.out ha4 (good_drop H2d.out.g.g hkN hkl).1 hg4)
          have HG4 := Lib.hid (gx_pre (b_drew (Below.refl W2.heap.size W2)) hg4)
          clear ha4 hg4
          refine hK.out _ _ (HSH.out _ HG4.out) (fun hHeld => ?_)
          clear hK K
          (try simp only [Act.put, List.getElem_toArray, List.getElem_cons_succ, List.getElem_cons_zero, List.setIfInBounds_toArray, List.set_cons_zero, List.set_cons_succ])
          refine atI 7 ?_
          iterate 5 (refine takeN (v := ?_) rfl (by rfl) ?_ hHeld ?_; rotate_left; (focus (intro w hSw; (try dsimp only at hSw); go_simp; try (with_reducible rfl))); (try simp only [Act.put, Nat.reduceAdd, List.getElem_toArray, List.getElem_cons_succ, List.getElem_cons_zero, List.setIfInBounds_toArray, List.set_cons_zero, List.set_cons_succ]))
          refine atIo ?_
          refine wpAnyH_done (by kernel_rfl) ?_ _
          clear hst
          obtain ⟨p0, p1, p2, _⟩ := blk3 H4.out.pr
          have pz := H4.out.pr.1
          unfold sp at p1
          have HCK := Lib.hid (scheck_any H4.out.g.a H4.out.g.g)
          unfold sp at HCK
          go_wp2_with fail
          refine HCK.out.mono ?_
          rintro e wz ⟨rfl, hbz⟩
          have HZ := Lib.hid (w7_below H4.out hbz)
          clear hbz p0 p1 p2 pz HCK
          go_wp2_with fail
          go_roundw
          case rel => exact ⟨j + 1, by omega, by first | rfl | go_num, ⟨lst, by first | rfl | go_num, by omega, by omega, Lib.hid ⟨_, _, HZ.out, HLO.out⟩⟩⟩
          case measure => simp [intOf] <;> omega
        · have HD := Lib.hid (sdrop_no H2d.out.g.a ok hst)
          have hme : (mustE m ok 1 == 0) = false := by rcases mustE_no hst with q | q <;> rw [q] <;> rfl
          generalize mustE m ok 1 = me at *
          unfold sp at HD
          go_upto_region 19 with fail
          clear p0 p1 p2 pz x0 x1 x2 x3 xf xz
          refine wp_region_held_drew (S := fun w' => (w'.cell? ⟨p, 1, none⟩ = some (.pointer (some ⟨b.s, 0, none⟩)) ∧ w'.cell? ⟨W1.heap.size, 1, none⟩ = some (.int .i64 ok))) (by kernel_rfl) (HSH.out _ (gx_below (b_drew (Below.refl _ _)) _)) (fun hHeld => ?_)
          refine atI 0 ?_
          iterate 6 (refine takeN (v := ?_) rfl (by rfl) ?_ hHeld ?_; rotate_left; (focus (intro w hSw; (try dsimp only at hSw); go_simp; try (with_reducible rfl))); (try simp only [Act.put, Nat.reduceAdd, List.getElem_toArray, List.getElem_cons_succ, List.getElem_cons_zero, List.setIfInBounds_toArray, List.set_cons_zero, List.set_cons_succ]))
          refine atIo ?_
          refine wpAnyH_ready (rs := [6]) (by kernel_rfl) (by simp) (AllReadyH.cons rfl (fun K hK => ?_) AllReadyH.nil)
          go_simp
          refine HD.out.mono ?_
          rintro e w4 ⟨rfl, rfl⟩
          refine hK.out _ _ (HSH.out _ (gx_below (b_drew (Below.refl _ _)) _)) (fun hHeld => ?_)
          clear hK K
          (try simp only [Act.put, List.getElem_toArray, List.getElem_cons_succ, List.getElem_cons_zero, List.setIfInBounds_toArray, List.set_cons_zero, List.set_cons_succ])
          refine atI 7 ?_
          iterate 5 (refine takeN (v := ?_) rfl (by rfl) ?_ hHeld ?_; rotate_left; (focus (intro w hSw; (try dsimp only at hSw); go_simp; try (with_reducible rfl))); (try simp only [Act.put, Nat.reduceAdd, List.getElem_toArray, List.getElem_cons_succ, List.getElem_cons_zero, List.setIfInBounds_toArray, List.set_cons_zero, List.set_cons_succ]))
          refine atIo ?_
          refine wpAnyH_done (by kernel_rfl) ?_ _
          clear hst
          obtain ⟨p0, p1, p2, _⟩ := blk3 H2d.out.pr
          have pz := H2d.out.pr.1
          unfold sp at p1
          have HCK := Lib.hid (scheck_any H2d.out.g.a H2d.out.g.g)
          unfold sp at HCK
          go_wp2_with fail
          refine HCK.out.mono ?_
          rintro e wz ⟨rfl, hbz⟩
          have HZ := Lib.hid (w7_below H2d.out hbz)
          clear hbz p0 p1 p2 pz HCK
          go_wp2_with fail
          go_roundw
          case rel => exact ⟨j + 1, by omega, by first | rfl | go_num, ⟨lst, by first | rfl | go_num, by omega, by omega, Lib.hid ⟨_, _, HZ.out, HLO.out⟩⟩⟩
          case measure => simp [intOf] <;> omega
      · skip
        have HSH : Hid (∀ w', GrowX W2 w' (slX b) → (w'.cell? ⟨p, 1, none⟩ = some (.pointer (some ⟨b.s, 0, none⟩)) ∧ w'.cell? ⟨W1.heap.size, 1, none⟩ = some (.int .i64 ok))) := Lib.hid (fun w' hg => by
          have z1 := (blk_gx H2.out.pr hg H2.out.np).2.1 1 (by simp)
          have z2 := (blk_gx HX2.out hg HNQ.out).2.1 1 (by simp)
          exact ⟨by simpa [sp] using z1, by simpa using z2⟩)
        have H2d := Lib.hid (w7_below H2.out (b_drew (Below.refl W2.heap.size W2)))
        by_cases hst : stI m ok = 2
        · obtain ⟨kk, ek, hkN, hk0, hkl⟩ := good_st2 H2.out.g.g hst
          have HD := Lib.hid (sgive_yes H2d.out.g.a H2d.out.g.g hkN hk0 hkl)
          rw [← ek] at HD
          have HEK := Lib.hid ek
          have hkb : 0 ≤ ok ∧ ok ≤ 16 := by have := HN16.out; omega
          clear ek
          unfold sp at HD
          go_upto_region 24 with fail
          clear p0 p1 p2 pz x0 x1 x2 x3 xf xz
          refine wp_region_held_drew (S := fun w' => (w'.cell? ⟨p, 1, none⟩ = some (.pointer (some ⟨b.s, 0, none⟩)) ∧ w'.cell? ⟨W1.heap.size, 1, none⟩ = some (.int .i64 ok))) (by kernel_rfl) (HSH.out _ (gx_below (b_drew (Below.refl _ _)) _)) (fun hHeld => ?_)
          refine atI 0 ?_
          iterate 6 (refine takeN (v := ?_) rfl (by rfl) ?_ hHeld ?_; rotate_left; (focus (intro w hSw; (try dsimp only at hSw); go_simp; try (with_reducible rfl))); (try simp only [Act.put, Nat.reduceAdd, List.getElem_toArray, List.getElem_cons_succ, List.getElem_cons_zero, List.setIfInBounds_toArray, List.set_cons_zero, List.set_cons_succ]))
          refine atIo ?_
          refine wpAnyH_ready (rs := [6]) (by kernel_rfl) (by simp) (AllReadyH.cons rfl (fun K hK => ?_) AllReadyH.nil)
          go_simp
          refine HD.out.mono ?_
          rintro e w4 ⟨rfl, ha4, hg4⟩
          have H4 := Lib.hid (w7_turn H2d.out ha4 (good_give H2d.out.g.g hkN hk0 hkl).1 hg4)
          have HG4 := Lib.hid (gx_pre (b_drew (Below.refl W2.heap.size W2)) hg4)
          have hx4 := blk_gx HX2.out HG4.out HNQ.out
          clear ha4 hg4
          refine hK.out _ _ (HSH.out _ HG4.out) (fun hHeld => ?_)
          clear hK K
          (try simp only [Act.put, List.getElem_toArray, List.getElem_cons_succ, List.getElem_cons_zero, List.setIfInBounds_toArray, List.set_cons_zero, List.set_cons_succ])
          (refine wpAnyH_take (i := 7) (v := ?_) rfl (by kernel_rfl) (by kernel_rfl) (by kernel_rfl) (fun _ _ _ h => h) (Or.inl ⟨by rfl, ?_⟩) hHeld ?_; rotate_left; (focus (intro w hSw; (try dsimp only at hSw); go_simp; try (with_reducible rfl))); (try simp only [Act.put, List.getElem_toArray, List.getElem_cons_succ, List.getElem_cons_zero, List.setIfInBounds_toArray, List.set_cons_zero, List.set_cons_succ]))
          refine wpAnyH_done (by kernel_rfl) ?_ _
          clear hst
          obtain ⟨x0, x1, x2, x3, xf⟩ := blk4 hx4
          have xz := hx4.1
          clear hx4
          obtain ⟨p0, p1, p2, _⟩ := blk3 H4.out.pr
          have pz := H4.out.pr.1
          unfold sp at p1
          have HCK := Lib.hid (scheck_any H4.out.g.a H4.out.g.g)
          unfold sp at HCK
          go_wp2_with fail
          refine HCK.out.mono ?_
          rintro e wz ⟨rfl, hbz⟩
          have HZ := Lib.hid (w7_below H4.out hbz)
          clear hbz p0 p1 p2 pz HCK
          go_wp2_with fail
          go_roundw
          case rel => exact ⟨j + 1, by omega, by first | rfl | go_num, ⟨ok, by first | rfl | go_num, by omega, by omega, Lib.hid ⟨_, _, HZ.out, Or.inr ⟨kk, _, HEK.out, rfl⟩⟩⟩⟩
          case measure => simp [intOf] <;> omega
        · have HD := Lib.hid (sgive_no H2d.out.g.a ok hst)
          have hme : (mustE m ok 2 == 0) = false := by rcases mustE_no hst with q | q <;> rw [q] <;> rfl
          generalize mustE m ok 2 = me at *
          unfold sp at HD
          go_upto_region 24 with fail
          clear p0 p1 p2 pz x0 x1 x2 x3 xf xz
          refine wp_region_held_drew (S := fun w' => (w'.cell? ⟨p, 1, none⟩ = some (.pointer (some ⟨b.s, 0, none⟩)) ∧ w'.cell? ⟨W1.heap.size, 1, none⟩ = some (.int .i64 ok))) (by kernel_rfl) (HSH.out _ (gx_below (b_drew (Below.refl _ _)) _)) (fun hHeld => ?_)
          refine atI 0 ?_
          iterate 6 (refine takeN (v := ?_) rfl (by rfl) ?_ hHeld ?_; rotate_left; (focus (intro w hSw; (try dsimp only at hSw); go_simp; try (with_reducible rfl))); (try simp only [Act.put, Nat.reduceAdd, List.getElem_toArray, List.getElem_cons_succ, List.getElem_cons_zero, List.setIfInBounds_toArray, List.set_cons_zero, List.set_cons_succ]))
          refine atIo ?_
          refine wpAnyH_ready (rs := [6]) (by kernel_rfl) (by simp) (AllReadyH.cons rfl (fun K hK => ?_) AllReadyH.nil)
          go_simp
          refine HD.out.mono ?_
          rintro e w4 ⟨rfl, rfl⟩
          refine hK.out _ _ (HSH.out _ (gx_below (b_drew (Below.refl _ _)) _)) (fun hHeld => ?_)
          clear hK K
          (try simp only [Act.put, List.getElem_toArray, List.getElem_cons_succ, List.getElem_cons_zero, List.setIfInBounds_toArray, List.set_cons_zero, List.set_cons_succ])
          (refine wpAnyH_take (i := 7) (v := ?_) rfl (by kernel_rfl) (by kernel_rfl) (by kernel_rfl) (fun _ _ _ h => h) (Or.inl ⟨by rfl, ?_⟩) hHeld ?_; rotate_left; (focus (intro w hSw; (try dsimp only at hSw); go_simp; try (with_reducible rfl))); (try simp only [Act.put, List.getElem_toArray, List.getElem_cons_succ, List.getElem_cons_zero, List.setIfInBounds_toArray, List.set_cons_zero, List.set_cons_succ]))
          refine wpAnyH_done (by kernel_rfl) ?_ _
          clear hst
          obtain ⟨p0, p1, p2, _⟩ := blk3 H2d.out.pr
          have pz := H2d.out.pr.1
          unfold sp at p1
          have HCK := Lib.hid (scheck_any H2d.out.g.a H2d.out.g.g)
          unfold sp at HCK
          go_wp2_with fail
          refine HCK.out.mono ?_
          rintro e wz ⟨rfl, hbz⟩
          have HZ := Lib.hid (w7_below H2d.out hbz)
          clear hbz p0 p1 p2 pz HCK
          go_wp2_with fail
          go_roundw
          case rel => exact ⟨j + 1, by omega, by first | rfl | go_num, ⟨lst, by first | rfl | go_num, by omega, by omega, Lib.hid ⟨_, _, HZ.out, HLO.out⟩⟩⟩
          case measure => simp [intOf] <;> omega
      · skip
        have HSH : Hid (∀ w', GrowX W2 w' (slX b) → (w'.cell? ⟨p, 1, none⟩ = some (.pointer (some ⟨b.s, 0, none⟩)) ∧ w'.cell? ⟨W1.heap.size, 1, none⟩ = some (.int .i64 ok))) := Lib.hid (fun w' hg => by
          have z1 := (blk_gx H2.out.pr hg H2.out.np).2.1 1 (by simp)
          have z2 := (blk_gx HX2.out hg HNQ.out).2.1 1 (by simp)
          exact ⟨by simpa [sp] using z1, by simpa using z2⟩)
        have H2d := Lib.hid (w7_below H2.out (b_drew (Below.refl W2.heap.size W2)))
        by_cases hst : stI m ok = 2
        · obtain ⟨kk, ek, hkN, hk0, hkl⟩ := good_st2 H2.out.g.g hst
          have HD := Lib.hid (sgive_yes H2d.out.g.a H2d.out.g.g hkN hk0 hkl)
          rw [← ek] at HD
          have HEK := Lib.hid ek
          have hkb : 0 ≤ ok ∧ ok ≤ 16 := by have := HN16.out; omega
          clear ek
          unfold sp at HD
          go_upto_region 24 with fail
          clear p0 p1 p2 pz x0 x1 x2 x3 xf xz
          refine wp_region_held_drew (S := fun w' => (w'.cell? ⟨p, 1, none⟩ = some (.pointer (some ⟨b.s, 0, none⟩)) ∧ w'.cell? ⟨W1.heap.size, 1, none⟩ = some (.int .i64 ok))) (by kernel_rfl) (HSH.out _ (gx_below (b_drew (Below.refl _ _)) _)) (fun hHeld => ?_)
          refine atI 0 ?_
          iterate 6 (refine takeN (v := ?_) rfl (by rfl) ?_ hHeld ?_; rotate_left; (focus (intro w hSw; (try dsimp only at hSw); go_simp; try (with_reducible rfl))); (try simp only [Act.put, Nat.reduceAdd, List.getElem_toArray, List.getElem_cons_succ, List.getElem_cons_zero, List.setIfInBounds_toArray, List.set_cons_zero, List.set_cons_succ]))
          refine atIo ?_
          refine wpAnyH_ready (rs := [6]) (by kernel_rfl) (by simp) (AllReadyH.cons rfl (fun K hK => ?_) AllReadyH.nil)
          go_simp
          refine HD.out.mono ?_
          rintro e w4 ⟨rfl, ha4, hg4⟩
          have H4 := Lib.hid (w7_turn H2d.out ha4 (good_give H2d.out.g.g hkN hk0 hkl).1 hg4)
          have HG4 := Lib.hid (gx_pre (b_drew (Below.refl W2.heap.size W2)) hg4)
          have hx4 := blk_gx HX2.out HG4.out HNQ.out
          clear ha4 hg4
          refine hK.out _ _ (HSH.out _ HG4.out) (fun hHeld => ?_)
          clear hK K
          (try simp only [Act.put, List.getElem_toArray, List.getElem_cons_succ, List.getElem_cons_zero, List.setIfInBounds_toArray, List.set_cons_zero, List.set_cons_succ])
          (refine wpAnyH_take (i := 7) (v := ?_) rfl (by kernel_rfl) (by kernel_rfl) (by kernel_rfl) (fun _ _ _ h => h) (Or.inl ⟨by rfl, ?_⟩) hHeld ?_; rotate_left; (focus (intro w hSw; (try dsimp only at hSw); go_simp; try (with_reducible rfl))); (try simp only [Act.put, List.getElem_toArray, List.getElem_cons_succ, List.getElem_cons_zero, List.setIfInBounds_toArray, List.set_cons_zero, List.set_cons_succ]))
          refine wpAnyH_done (by kernel_rfl) ?_ _
          clear hst
          obtain ⟨x0, x1, x2, x3, xf⟩ := blk4 hx4
          have xz := hx4.1
          clear hx4
          obtain ⟨p0, p1, p2, _⟩ := blk3 H4.out.pr
          have pz := H4.out.pr.1
          unfold sp at p1
          have HCK := Lib.hid (scheck_any H4.out.g.a H4.out.g.g)
          unfold sp at HCK
          go_wp2_with fail
          refine HCK.out.mono ?_
          rintro e wz ⟨rfl, hbz⟩
          have HZ := Lib.hid (w7_below H4.out hbz)
          clear hbz p0 p1 p2 pz HCK
          go_wp2_with fail
          go_roundw
          case rel => exact ⟨j + 1, by omega, by first | rfl | go_num, ⟨ok, by first | rfl | go_num, by omega, by omega, Lib.hid ⟨_, _, HZ.out, Or.inr ⟨kk, _, HEK.out, rfl⟩⟩⟩⟩
          case measure => simp [intOf] <;> omega
        · have HD := Lib.hid (sgive_no H2d.out.g.a ok hst)
          have hme : (mustE m ok 2 == 0) = false := by rcases mustE_no hst with q | q <;> rw [q] <;> rfl
          generalize mustE m ok 2 = me at *
          unfold sp at HD
          go_upto_region 24 with fail
          clear p0 p1 p2 pz x0 x1 x2 x3 xf xz
          refine wp_region_held_drew (S := fun w' => (w'.cell? ⟨p, 1, none⟩ = some (.pointer (some ⟨b.s, 0, none⟩)) ∧ w'.cell? ⟨W1.heap.size, 1, none⟩ = some (.int .i64 ok))) (by kernel_rfl) (HSH.out _ (gx_below (b_drew (Below.refl _ _)) _)) (fun hHeld => ?_)
          refine atI 0 ?_
          iterate 6 (refine takeN (v := ?_) rfl (by rfl) ?_ hHeld ?_; rotate_left; (focus (intro w hSw; (try dsimp only at hSw); go_simp; try (with_reducible rfl))); (try simp only [Act.put, Nat.reduceAdd, List.getElem_toArray, List.getElem_cons_succ, List.getElem_cons_zero, List.setIfInBounds_toArray, List.set_cons_zero, List.set_cons_succ]))
          refine atIo ?_
          refine wpAnyH_ready (rs := [6]) (by kernel_rfl) (by simp) (AllReadyH.cons rfl (fun K hK => ?_) AllReadyH.nil)
          go_simp
          refine HD.out.mono ?_
          rintro e w4 ⟨rfl, rfl⟩
          refine hK.out _ _ (HSH.out _ (gx_below (b_drew (Below.refl _ _)) _)) (fun hHeld => ?_)
          clear hK K
          (try simp only [Act.put, List.getElem_toArray, List.getElem_cons_succ, List.getElem_cons_zero, List.setIfInBounds_toArray, List.set_cons_zero, List.set_cons_succ])
          (refine wpAnyH_take (i := 7) (v := ?_) rfl (by kernel_rfl) (by kernel_rfl) (by kernel_rfl) (fun _ _ _ h => h) (Or.inl ⟨by rfl, ?_⟩) hHeld ?_; rotate_left; (focus (intro w hSw; (try dsimp only at hSw); go_simp; try (with_reducible rfl))); (try simp only [Act.put, List.getElem_toArray, List.getElem_cons_succ, List.getElem_cons_zero, List.setIfInBounds_toArray, List.set_cons_zero, List.set_cons_succ]))
          refine wpAnyH_done (by kernel_rfl) ?_ _
          clear hst
          obtain ⟨p0, p1, p2, _⟩ := blk3 H2d.out.pr
          have pz := H2d.out.pr.1
          unfold sp at p1
          have HCK := Lib.hid (scheck_any H2d.out.g.a H2d.out.g.g)
          unfold sp at HCK
          go_wp2_with fail
          refine HCK.out.mono ?_
          rintro e wz ⟨rfl, hbz⟩
          have HZ := Lib.hid (w7_below H2d.out hbz)
          clear hbz p0 p1 p2 pz HCK
          go_wp2_with fail
          go_roundw
          case rel => exact ⟨j + 1, by omega, by first | rfl | go_num, ⟨lst, by first | rfl | go_num, by omega, by omega, Lib.hid ⟨_, _, HZ.out, HLO.out⟩⟩⟩
          case measure => simp [intOf] <;> omega
      · skip
        have k0' : (kd == 0) = false := beq_false_of_ne k0
        have k1' : (kd == 1) = false := beq_false_of_ne k1
        have k2' : (kd == 2) = false := beq_false_of_ne k2
        have k3' : (kd == 3) = false := beq_false_of_ne k3
        have k4' : (kd == 4) = false := beq_false_of_ne k4
        have k5' : (kd == 5) = false := beq_false_of_ne k5
        have k6' : (kd == 6) = false := beq_false_of_ne k6
        clear k0 k1 k2 k3 k4 k5 k6
        have HCK := Lib.hid (scheck_any H2.out.g.a H2.out.g.g)
        unfold sp at HCK
        go_wp2_with fail
        refine HCK.out.mono ?_
        rintro e wz ⟨rfl, hbz⟩
        have HZ := Lib.hid (w7_below H2.out hbz)
        clear hbz p0 p1 p2 pz HCK
        go_wp2_with fail
        go_roundw
        case rel => exact ⟨j + 1, by omega, by first | rfl | go_num, ⟨lst, by first | rfl | go_num, by omega, by omega, Lib.hid ⟨_, _, HZ.out, HLO.out⟩⟩⟩
        case measure => simp [intOf] <;> omega
    · have j1 : ¬ ((j : Int) < M.length) := by omega
      go_wp2_with fail
      refine (awake7 _).mono ?_
      rintro e w5 ⟨rfl, hb5⟩
      have HB5 := Lib.hid (b_call H1.out.be hb5)
      clear hb5
      go_wp2_with fail
      go_ret
      exact ⟨rfl, HB5.out⟩
end Go.Proofs.Ytgbbnmjfkhconaa
