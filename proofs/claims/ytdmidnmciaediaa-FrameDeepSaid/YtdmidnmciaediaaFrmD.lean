/- FrameDeep, walked: whatever the program, the function and how often it is called, the answer is true. Conditions: the program reads as lists, the number is a byte. -/
import Derived.Test.YtdmidnmciaediaaFrmA
import Derived.Test.YtdmidnmciaediaaCutM
import Derived.Test.YtdmidnmciaediaaOurs25
namespace Go.Proofs.Ytdmidnmciaediaa
open Go.RowKit
set_option linter.unusedVariables false
set_option linter.unusedSimpArgs false
attribute [local go_sem] over_cell over_frozen
def frN (f : Int) (ls : List Int) (j : Nat) : FrM := ⟨f, 0, zeroV ls, [intV j]⟩
def deepL (f : Int) (ls : List Int) (k : Nat) : List FrM := (List.range k).map (frN f ls)
theorem deepL_succ (f : Int) (ls : List Int) (k : Nat) : deepL f ls (k + 1) = deepL f ls k ++ [frN f ls k] := by
  unfold deepL; rw [List.range_succ, List.map_append]; rfl
theorem deepL_length (f : Int) (ls : List Int) (k : Nat) : (deepL f ls k).length = k := by unfold deepL; simp
def lenAt (w : World) (s : Nat) : Nat := match w.cell? ⟨s, 4, none⟩ with | some (.slice _ n _) => n | _ => 0
theorem lenAt_of {w0 w : World} {s : Nat} {p : PrV} {lv : Sl} {ds : List FrD} {L : List FrM} (h : FrsAt w0 w s p lv ds L) : lenAt w s = L.length := by
  unfold lenAt; rw [(frs_cells h).2.1]
set_option maxRecDepth 100000 in
set_option maxHeartbeats 4000000 in
theorem frameDeep_any (p : PrV) (P : PrM) (f n : Int) (w : World) (h : ReadP w p P) (hn0 : 0 ≤ n) (hn1 : n < 256) : Calls Try.prog 3 #[aggP p, .int .i64 f, .int .u8 n] w fun e w' => e = .returned (.bool true) ∧ Below w.heap.size w w' := by
  have H := Lib.hid h
  obtain ⟨C, hC⟩ : ∃ C, C = cutP P := ⟨_, rfl⟩
  have HC := Lib.hid hC
  have HSM : Hid (SmallP C) := by show SmallP C; rw [hC]; exact small_cut P
  obtain ⟨u, ⟨ga, gn, gc⟩, m, ⟨fa, fn, fc⟩⟩ := p
  obtain ⟨M, hM⟩ : ∃ M : Nat, n % 30 = (M : Int) := ⟨(n % 30).toNat, by omega⟩
  have hM2 : n.tmod 30 = (M : Int) := by rw [Int.tmod_eq_emod_of_nonneg hn0]; exact hM
  have hM3 : M < 30 := by omega
  clear h hC
  unfold aggP Sl.v
  simp only
  have HB0 := Lib.hid (b_alloc (Below.refl w.heap.size w) (.cells #[.bool u, .slice ga gn gc, .int .i64 m, .slice fa fn fc] 25))
  have HX0 := Lib.hid (blk_new w #[.bool u, .slice ga gn gc, .int .i64 m, .slice fa fn fc] 25)
  go_enter Try.func3, Try.ntmps3
  go_wp2_with fail
  refine (cut_made ⟨u, ⟨ga, gn, gc⟩, m, ⟨fa, fn, fc⟩⟩ P w _ H.out HB0.out).mono ?_
  rintro e w1 ⟨q, rfl, hcm, hb1⟩
  rw [← HC.out] at hcm
  obtain ⟨qu, ⟨qa, qn, qc⟩, qm, ⟨ra, rn, rc⟩⟩ := q
  have BX1 := blk_below HX0.out hb1
  have HB1 := Lib.hid (b_call HB0.out hb1)
  have HCM := Lib.hid hcm
  have hl1 := BX1.1
  have HX1 := Lib.hid BX1
  obtain ⟨c0, c1, c2, c3, cf⟩ := blk4 BX1
  clear hcm hb1 BX1
  unfold aggP Sl.v
  simp only
  go_upto_region 2 with fail
  refine wp_named ?_
  intro W hW
  have BW : Blk W w.heap.size [.bool qu, .slice qa qn qc, .int .i64 qm, .slice ra rn rc] := by rw [hW]; exact blk_set (blk_set (blk_set (blk_set HX1.out 0 _) 1 _) 2 _) 3 _
  have GW := gb_set (gb_set (gb_set (gb_set (gb_refl w1 (some w.heap.size)) 0 none (.bool qu)) 1 none (.slice qa qn qc)) 2 none (.int .i64 qm)) 3 none (.slice ra rn rc)
  rw [← hW] at GW
  have hBW : Below w.heap.size w W := b_grown HB1.out GW (Nat.le_refl _)
  have RW : ReadP W ⟨qu, ⟨qa, qn, qc⟩, qm, ⟨ra, rn, rc⟩⟩ C := cutMade_read (cutMade_grown HCM.out GW (by simp)) hBW
  have HR := Lib.hid RW
  have HBW := Lib.hid hBW
  have HK : Hid (∀ w', Below W.heap.size W w' → w'.cell? ⟨w.heap.size, 0, none⟩ = some (.bool qu) ∧ w'.cell? ⟨w.heap.size, 1, none⟩ = some (.slice qa qn qc) ∧ w'.cell? ⟨w.heap.size, 2, none⟩ = some (.int .i64 qm) ∧ w'.cell? ⟨w.heap.size, 3, none⟩ = some (.slice ra rn rc)) := Lib.hid (fun w' hb => by
    obtain ⟨y0, y1, y2, y3, _⟩ := blk4 (blk_below BW hb); exact ⟨y0, y1, y2, y3⟩)
  clear hW GW hBW RW c0 c1 c2 c3 cf BW HX1 hl1 HCM HB1
  obtain ⟨c0, c1, c2, c3⟩ := HK.out W (Below.refl _ _)
  go_wp2_with fail
  refine (ours25_any ⟨qu, ⟨qa, qn, qc⟩, qm, ⟨ra, rn, rc⟩⟩ C _ HR.out HSM.out).mono ?_
  rintro e w2 ⟨o, rfl, ho, hb2⟩
  have HO := Lib.hid ho
  have HB2 := Lib.hid (b_call HBW.out hb2)
  clear ho c0 c1 c2 c3
  go_wp2_with fail
  refine (fnew_any o (Below.refl w2.heap.size w2)).mono ?_
  rintro e w3 ⟨s, rfl, hf3, hs3, hb3⟩
  have HF3 := Lib.hid hf3
  obtain ⟨c0, c1, c2, c3⟩ := HK.out w3 (b_call hb2 hb3)
  have HRW := Lib.hid (readP_below HR.out (b_call hb2 hb3))
  clear hf3 hs3 hb3 hb2
  obtain ⟨n1, n2, n3⟩ := fns_len HRW.out
  simp only at n1 n2 n3
  subst n1
  have hcap := cap_le n3
  unfold fp
  by_cases hcan : ∃ k : Nat, ∃ hk : k < C.fs.length, f = k ∧ C.fs[k].ps = []
  · obtain ⟨k, hk, rfl, hps⟩ := hcan
    obtain ⟨b, o', ea, pv, lv2, cv, hF0⟩ := fns_at HRW.out hk
    simp only at ea
    subst ea
    have d0 := hF0.p
    have hlen := (sli_cap hF0.rp).2.2
    rw [hps] at hlen
    simp only [List.length_nil] at hlen
    rw [hlen] at d0
    have k0 : (0 : Int) ≤ k := by omega
    have k1 : (k : Int) < C.fs.length := by omega
    have k2 : k < rc := by omega
    have hpc : pv.n ≤ pv.c := (sli_cap hF0.rp).1
    have HPS : Hid (kindsV [] = (C.fs[k]).ps) := by show _ = _; rw [hps]; rfl
    have HKL : Hid (k < C.fs.length) := hk
    obtain ⟨ls, hls⟩ : ∃ ls, ls = (C.fs[k]).ls := ⟨_, rfl⟩
    have HLS := Lib.hid hls
    clear hls
    go_upto_region 3 with fail
    go_cut [8] (fun v wx => v = .bool true ∧ Below w3.heap.size w3 wx)
    case first =>
      clear hps hF0 hlen
      go_wp2_with fail
      go_meet
      case rel => exact ⟨rfl, by (repeat' (first | exact Below.refl _ _ | assumption | refine b_alloc ?_ _ | refine b_over ?_ _ | refine b_drew ?_ | refine b_call ?_ (by assumption)))⟩
    case rest =>
      obtain ⟨rfl, hbc⟩ := hcut
      have HFC := Lib.hid (frs_below HF3.out hbc)
      clear hbc hps hF0 hlen d0 c0 c1 c2 c3 n2 n3 hpc
      go_wp2_with fail
      go_loopw [9] (fun i wr => ∃ j : Nat, i = .int .i64 j ∧ j ≤ M ∧ ∃ lv ds, Hid (FrsAt w2 wr s o lv ds (deepL k ls (min j 24)))) (fun i _ => M - (intOf i).toNat)
      case atStart => exact ⟨0, rfl, Nat.zero_le _, _, _, HFC⟩
      case round =>
        obtain ⟨j, rfl, hj, lv, ds, hF⟩ := hrel
        have j0 : (0 : Int) ≤ j := by omega
        by_cases hlt : j < M
        · have j1 : (j : Int) < M := by omega
          have jb : (j : Int) < 30 := by omega
          by_cases h24 : j < 24
          · have j2 : (j : Int) < 24 := by omega
            have e1 : min j 24 = j := by omega
            rw [e1] at hF
            go_wp2_with fail
            refine (fcall_any (P := C) hF.out HO.out HSM.out k HKL.out (readR_nil _) (by simp) HPS.out (by rw [deepL_length]; exact h24)).mono ?_
            rintro e w4 ⟨rfl, ⟨lv4, ds4, hf4⟩, hg4⟩
            obtain ⟨ds', d', rfl, _, _⟩ := frAll_last hf4.fr
            have HF4 : Hid (FrsAt w2 w4 s o lv4 (ds' ++ [d']) (deepL k ls j ++ [⟨k, 0, zeroV ls, []⟩])) := by
              have e := HLS.out
              subst e
              exact hf4
            clear hf4 hg4
            go_wp2_with fail
            refine (vint_any j _).mono ?_
            rintro e w5 ⟨rfl, hb5⟩
            have HF5 := Lib.hid (frs_below HF4.out hb5)
            clear hb5
            go_wp2_with fail
            refine (fpush_any HF5.out (intV j) (by simp)).mono ?_
            rintro e w6 ⟨rfl, ⟨d6, hf6⟩, hg6⟩
            have HF6 := Lib.hid hf6
            clear hf6 hg6
            go_wp2_with fail
            go_roundw
            case rel =>
              refine ⟨j + 1, by go_num, by omega, lv4, ds' ++ [d6], ?_⟩
              rw [show min (j + 1) 24 = j + 1 by omega, deepL_succ]
              exact HF6
            case measure => simp only [intOf]; omega
          · have j2 : (24 : Int) ≤ j := by omega
            have j3 : ¬ ((j : Int) < 24) := by omega
            go_wp2_with fail
            refine (fcall_full (P := C) hF.out HO.out HSM.out k HKL.out (readR_nil _) (by simp) HPS.out (by rw [deepL_length]; omega)).mono ?_
            rintro e w4 ⟨rfl, hb4⟩
            have HF4 := Lib.hid (frs_below hF.out hb4)
            clear hb4
            go_wp2_with fail
            go_roundw
            case rel =>
              refine ⟨j + 1, by go_num, by omega, lv, ds, ?_⟩
              rw [show min (j + 1) 24 = min j 24 by omega]
              exact HF4
            case measure => simp only [intOf]; omega
        · have j1 : ¬ ((j : Int) < M) := by omega
          generalize hmj : min j 24 = t at *
          clear hmj
          go_wp2_with fail
          go_loopw [12] (fun _ wr => ∃ (t : Nat) (lv : Sl) (ds : List FrD), Hid (FrsAt w2 wr s o lv ds (deepL k ls t))) (fun _ wr => lenAt wr s)
          case atStart => exact ⟨_, _, _, hF⟩
          case round =>
            obtain ⟨t, lv, ds, hF⟩ := hrel
            rcases Nat.eq_zero_or_pos t with ht | ht
            · subst ht
              have HL := Lib.hid (flen_any hF.out)
              rw [deepL_length] at HL
              go_wp2_with fail
              refine HL.out.mono ?_
              rintro e w5 ⟨rfl, rfl⟩
              go_wp2_with fail
              refine (fret_none hF.out).mono ?_
              rintro e w6 ⟨rfl, rfl⟩
              go_wp2_with fail
              refine (awake28 _).mono ?_
              rintro e w7 ⟨rfl, hb7⟩
              go_wp2_with fail
              go_ret
              exact ⟨rfl, b_call HB2.out (b_call hF.out.be hb7)⟩
            · obtain ⟨r, rfl⟩ : ∃ r, t = r + 1 := ⟨t - 1, by omega⟩
              have hml : Hid (lenAt wr s = r + 1) := by show _ = _; rw [lenAt_of hF.out, deepL_length]
              have HL := Lib.hid (flen_any hF.out)
              rw [deepL_length] at HL
              rw [deepL_succ] at hF
              obtain ⟨ds', d', rfl, _, _⟩ := frAll_last hF.out.fr
              obtain ⟨J, hJ⟩ : ∃ J : Int, J = ((r + 1 : Nat) : Int) := ⟨_, rfl⟩
              have HJ := Lib.hid hJ
              rw [← hJ] at HL
              have hbig : (r : Int) + 1 ≤ 9223372036854775807 := by
                have q := own_sl hF.out.row
                have q2 := cap_le q.2.2
                have q3 := q.2.1
                have q4 := (frs_len hF.out).2
                rw [List.length_map, q4, List.length_append, deepL_length, List.length_singleton] at q3
                omega
              have hJ0 : 0 < J := by omega
              have hwr : IntKind.i64.wrap (J - 1) = (r : Int) := by rw [IntKind.wrap_i64]; omega
              clear hJ
              go_wp2_with fail
              refine HL.out.mono ?_
              rintro e w5 ⟨rfl, rfl⟩
              go_wp2_with fail
              refine (fpop_any (S := []) (v := intV r) hF.out rfl).mono ?_
              rintro e w6 ⟨rfl, hf6, hg6⟩
              have HF6 := Lib.hid hf6
              clear hf6 hg6
              obtain ⟨X, hX⟩ : ∃ X : Int, X = (r : Int) % 18446744073709551616 := ⟨_, rfl⟩
              have HX := Lib.hid hX
              have HIV : Hid (intV r = ⟨0, X⟩) := by show _ = _; unfold intV; rw [hX]
              rw [HIV.out]
              clear hX
              unfold aggV
              simp only
              have BX := blk_new w6 #[.int .i64 0, .int .u64 X] VALT
              have HKX : Hid (∀ w', (w6.alloc (.cells #[.int .i64 0, .int .u64 X] VALT)).grownBy w' (some s) → w'.cell? ⟨w6.heap.size, 0, none⟩ = some (.int .i64 0) ∧ w'.cell? ⟨w6.heap.size, 1, none⟩ = some (.int .u64 X)) := Lib.hid (fun w' hb => by
                have hne : some w6.heap.size ≠ some s := fun e => by
                  injection e with e
                  have := HF6.out.hd.1
                  omega
                obtain ⟨y0, y1, _⟩ := blk2 (blk_grown BX hb hne); exact ⟨y0, y1⟩)
              have HF7 := Lib.hid (frs_below HF6.out (b_alloc (Below.refl w6.heap.size w6) (.cells #[.int .i64 0, .int .u64 X] VALT)))
              clear BX
              go_upto_region 14 with fail
              have kg := guardVal
              have kq : ∀ w, (binOp .neq 41 (.agg #[.int .i64 0, .int .u64 X]) (.agg #[.int .i64 0, .int .u64 X])).run Try.prog w = .ok (.bool false) w := fun w => by rw [neqVal]; simp
              refine wp_region_held_drew (S := (fun w' => w'.cell? ⟨w6.heap.size, 0, none⟩ = some (.int .i64 0) ∧ w'.cell? ⟨w6.heap.size, 1, none⟩ = some (.int .u64 X))) (by kernel_rfl) (HKX.out _ (gb_drew (gb_refl _ _))) (fun hHeld => ?_)
              have hf8 := frs_below HF7.out (b_drew (Below.refl _ _))
              have HL8 := Lib.hid (flen_any hf8)
              rw [List.length_append, deepL_length, List.length_singleton, ← HJ.out] at HL8
              (refine wpAnyH_take (i := 0) (v := ?_) rfl (by kernel_rfl) (by kernel_rfl) (by kernel_rfl) (fun _ _ _ h => h) (Or.inl ⟨by rfl, ?_⟩) hHeld ?_; rotate_left; (focus (intro w hSw; (try dsimp only at hSw); go_simp; try (with_reducible rfl))); (try simp only [Act.put, List.getElem_toArray, List.getElem_cons_succ, List.getElem_cons_zero, List.setIfInBounds_toArray, List.set_cons_zero, List.set_cons_succ]))
              (refine wpAnyH_take (i := 1) (v := ?_) rfl (by kernel_rfl) (by kernel_rfl) (by kernel_rfl) (fun _ _ _ h => h) (Or.inl ⟨by rfl, ?_⟩) hHeld ?_; rotate_left; (focus (intro w hSw; (try dsimp only at hSw); go_simp; try (with_reducible rfl))); (try simp only [Act.put, List.getElem_toArray, List.getElem_cons_succ, List.getElem_cons_zero, List.setIfInBounds_toArray, List.set_cons_zero, List.set_cons_succ]))
              (refine wpAnyH_take (i := 2) (v := ?_) rfl (by kernel_rfl) (by kernel_rfl) (by kernel_rfl) (fun _ _ _ h => h) (Or.inl ⟨by rfl, ?_⟩) hHeld ?_; rotate_left; (focus (intro w hSw; (try dsimp only at hSw); go_simp; try (with_reducible rfl))); (try simp only [Act.put, List.getElem_toArray, List.getElem_cons_succ, List.getElem_cons_zero, List.setIfInBounds_toArray, List.set_cons_zero, List.set_cons_succ]))
              (refine wpAnyH_take (i := 3) (v := ?_) rfl (by kernel_rfl) (by kernel_rfl) (by kernel_rfl) (fun _ _ _ h => h) (Or.inl ⟨by rfl, ?_⟩) hHeld ?_; rotate_left; (focus (intro w hSw; (try dsimp only at hSw); go_simp; try (with_reducible rfl))); (try simp only [Act.put, List.getElem_toArray, List.getElem_cons_succ, List.getElem_cons_zero, List.setIfInBounds_toArray, List.set_cons_zero, List.set_cons_succ]))
              (refine wpAnyH_take (i := 4) (v := ?_) rfl (by kernel_rfl) (by kernel_rfl) (by kernel_rfl) (fun _ _ _ h => h) (Or.inl ⟨by rfl, ?_⟩) hHeld ?_; rotate_left; (focus (intro w hSw; (try dsimp only at hSw); go_simp; try (with_reducible rfl))); (try simp only [Act.put, List.getElem_toArray, List.getElem_cons_succ, List.getElem_cons_zero, List.setIfInBounds_toArray, List.set_cons_zero, List.set_cons_succ]))
              refine wpAnyH_ready (rs := [5]) (by kernel_rfl) (by simp) (AllReadyH.cons rfl (fun K hK => ?_) AllReadyH.nil)
              go_simp
              refine HL8.out.mono ?_
              rintro e w8 ⟨rfl, rfl⟩
              refine hK.out _ _ (HKX.out _ (gb_drew (gb_refl _ _))) (fun hHeld => ?_)
              clear hK K
              (try simp only [Act.put, List.getElem_toArray, List.getElem_cons_succ, List.getElem_cons_zero, List.setIfInBounds_toArray, List.set_cons_zero, List.set_cons_succ])
              (refine wpAnyH_take (i := 6) (v := ?_) rfl (by kernel_rfl) (by kernel_rfl) (by kernel_rfl) (fun _ _ _ h => h) (Or.inl ⟨by rfl, ?_⟩) hHeld ?_; rotate_left; (focus (intro w hSw; (try dsimp only at hSw); go_simp; try (with_reducible rfl))); (try simp only [Act.put, List.getElem_toArray, List.getElem_cons_succ, List.getElem_cons_zero, List.setIfInBounds_toArray, List.set_cons_zero, List.set_cons_succ]))
              refine wpAnyH_ready (rs := [7]) (by kernel_rfl) (by simp) (AllReadyH.cons rfl (fun K hK => ?_) AllReadyH.nil)
              go_simp
              refine (vint_any r _).mono ?_
              rintro e w9 ⟨rfl, hb9⟩
              rw [HIV.out]
              unfold aggV
              simp only
              have hf9 := frs_below hf8 hb9
              have hgb9 := gb_below (gb_drew (gb_refl (w6.alloc (.cells #[.int .i64 0, .int .u64 X] VALT)) (some s))) hb9
              refine hK.out _ _ (HKX.out _ hgb9) (fun hHeld => ?_)
              clear hK K
              (try simp only [Act.put, List.getElem_toArray, List.getElem_cons_succ, List.getElem_cons_zero, List.setIfInBounds_toArray, List.set_cons_zero, List.set_cons_succ])
              (refine wpAnyH_take (i := 8) (v := ?_) rfl (by kernel_rfl) (by kernel_rfl) (by kernel_rfl) (fun _ _ _ h => h) (Or.inl ⟨by rfl, ?_⟩) hHeld ?_; rotate_left; (focus (intro w hSw; (try dsimp only at hSw); go_simp; try (with_reducible rfl))); (try simp only [Act.put, List.getElem_toArray, List.getElem_cons_succ, List.getElem_cons_zero, List.setIfInBounds_toArray, List.set_cons_zero, List.set_cons_succ]))
              (refine wpAnyH_take (i := 9) (v := ?_) rfl (by kernel_rfl) (by kernel_rfl) (by kernel_rfl) (fun _ _ _ h => h) (Or.inl ⟨by rfl, ?_⟩) hHeld ?_; rotate_left; (focus (intro w hSw; (try dsimp only at hSw); go_simp; try (with_reducible rfl))); (try simp only [Act.put, List.getElem_toArray, List.getElem_cons_succ, List.getElem_cons_zero, List.setIfInBounds_toArray, List.set_cons_zero, List.set_cons_succ]))
              (refine wpAnyH_take (i := 10) (v := ?_) rfl (by kernel_rfl) (by kernel_rfl) (by kernel_rfl) (fun _ _ _ h => h) (Or.inl ⟨by rfl, ?_⟩) hHeld ?_; rotate_left; (focus (intro w hSw; (try dsimp only at hSw); go_simp; try (with_reducible rfl))); (try simp only [Act.put, List.getElem_toArray, List.getElem_cons_succ, List.getElem_cons_zero, List.setIfInBounds_toArray, List.set_cons_zero, List.set_cons_succ]))
              (refine wpAnyH_take (i := 11) (v := ?_) rfl (by kernel_rfl) (by kernel_rfl) (by kernel_rfl) (fun _ _ _ h => h) (Or.inl ⟨by rfl, ?_⟩) hHeld ?_; rotate_left; (focus (intro w hSw; (try dsimp only at hSw); go_simp; try (with_reducible rfl))); (try simp only [Act.put, List.getElem_toArray, List.getElem_cons_succ, List.getElem_cons_zero, List.setIfInBounds_toArray, List.set_cons_zero, List.set_cons_succ]))
              refine wpAnyH_ready (rs := [12]) (by kernel_rfl) (by simp) (AllReadyH.cons rfl (fun K hK => ?_) AllReadyH.nil)
              go_simp
              refine (fret_any hf9).mono ?_
              rintro e w10 ⟨rfl, hf10, hg10⟩
              refine hK.out _ _ (HKX.out _ (gb_trans hgb9 hg10)) (fun hHeld => ?_)
              clear hK K
              (try simp only [Act.put, List.getElem_toArray, List.getElem_cons_succ, List.getElem_cons_zero, List.setIfInBounds_toArray, List.set_cons_zero, List.set_cons_succ])
              (refine wpAnyH_take (i := 13) (v := ?_) rfl (by kernel_rfl) (by kernel_rfl) (by kernel_rfl) (fun _ _ _ h => h) (Or.inl ⟨by rfl, ?_⟩) hHeld ?_; rotate_left; (focus (intro w hSw; (try dsimp only at hSw); go_simp; try (with_reducible rfl))); (try simp only [Act.put, List.getElem_toArray, List.getElem_cons_succ, List.getElem_cons_zero, List.setIfInBounds_toArray, List.set_cons_zero, List.set_cons_succ]))
              (refine wpAnyH_take (i := 14) (v := ?_) rfl (by kernel_rfl) (by kernel_rfl) (by kernel_rfl) (fun _ _ _ h => h) (Or.inl ⟨by rfl, ?_⟩) hHeld ?_; rotate_left; (focus (intro w hSw; (try dsimp only at hSw); go_simp; try (with_reducible rfl))); (try simp only [Act.put, List.getElem_toArray, List.getElem_cons_succ, List.getElem_cons_zero, List.setIfInBounds_toArray, List.set_cons_zero, List.set_cons_succ]))
              refine wpAnyH_done (by kernel_rfl) ?_ _
              have HF10 := Lib.hid hf10
              clear hf8 hf9 hf10 hgb9 hg10 hb9
              go_wp2_with fail
              go_roundw
              case rel => exact ⟨r, _, _, HF10⟩
              case measure => rw [lenAt_of HF10.out, deepL_length, hml.out]; omega
  · go_upto_region 3 with fail
    go_cut [8] (fun v wx => v = .bool false ∧ Below w3.heap.size w3 wx)
    case first =>
      rcases (show f < 0 ∨ (0 ≤ f ∧ ¬ f < C.fs.length) ∨ ∃ k : Nat, k < C.fs.length ∧ f = k by
        rcases Int.lt_or_le f 0 with q | q
        · exact Or.inl q
        · by_cases q2 : f < C.fs.length
          · exact Or.inr (Or.inr ⟨f.toNat, by omega, by omega⟩)
          · exact Or.inr (Or.inl ⟨q, q2⟩)) with q | ⟨q1, q2⟩ | ⟨k, hk, rfl⟩
      · clear hcan
        go_wp2_with fail
        go_meet
        case rel => exact ⟨rfl, by (repeat' (first | exact Below.refl _ _ | assumption | refine b_alloc ?_ _ | refine b_over ?_ _ | refine b_drew ?_ | refine b_call ?_ (by assumption)))⟩
      · clear hcan
        go_wp2_with fail
        go_meet
        case rel => exact ⟨rfl, by (repeat' (first | exact Below.refl _ _ | assumption | refine b_alloc ?_ _ | refine b_over ?_ _ | refine b_drew ?_ | refine b_call ?_ (by assumption)))⟩
      · have hps : C.fs[k].ps ≠ [] := fun e => hcan ⟨k, hk, rfl, e⟩
        obtain ⟨b, o', ea, pv, lv2, cv, hF0⟩ := fns_at HRW.out hk
        simp only at ea
        subst ea
        have d0 := hF0.p
        have hlen := (sli_cap hF0.rp).2.2
        have hpos : 0 < pv.n := by rw [hlen]; exact List.length_pos_iff.2 hps
        have k0 : (0 : Int) ≤ k := by omega
        have k1 : (k : Int) < C.fs.length := by omega
        have k2 : k < rc := by omega
        have hpc : pv.n ≤ pv.c := (sli_cap hF0.rp).1
        have hpc2 := cap_le (sli_cap hF0.rp).2.1
        have hz : ((pv.n : Int) == 0) = false := by rw [beq_eq_false_iff_ne]; omega
        clear hcan hps hF0 hlen hk
        go_wp2_with fail
        go_meet
        case rel => exact ⟨rfl, by (repeat' (first | exact Below.refl _ _ | assumption | refine b_alloc ?_ _ | refine b_over ?_ _ | refine b_drew ?_ | refine b_call ?_ (by assumption)))⟩
    case rest =>
      obtain ⟨rfl, hbc⟩ := hcut
      have HFC := Lib.hid (frs_below HF3.out hbc)
      have HCN := Lib.hid hcan
      clear hbc hcan c0 c1 c2 c3 n2 n3
      have HCALL : Hid (∀ wr, FrsAt w2 wr s o ⟨none, 0, 0⟩ [] [] → Calls Try.prog 18 #[fp s, .int .i64 f, .slice none 0 0] wr fun e w' => e = .returned (.int .i64 1) ∧ Below wr.heap.size wr w') := by
        refine Lib.hid (fun wr hF => ?_)
        by_cases q : 0 ≤ f ∧ f < C.fs.length
        · obtain ⟨k, rfl⟩ : ∃ k : Nat, f = k := ⟨f.toNat, by omega⟩
          have hk : k < C.fs.length := by omega
          exact fcall_kinds (P := C) hF HO.out HSM.out k hk (readR_nil _) (by simp) (fun e => HCN.out ⟨k, hk, rfl, e.symm⟩)
        · refine (fcall_out (P := C) hF HO.out f _ q).mono ?_
          rintro e w' ⟨rfl, rfl⟩
          exact ⟨rfl, Below.refl _ _⟩
      unfold fp at HCALL
      go_wp2_with fail
      go_loopw [9] (fun i wr => ∃ j : Nat, i = .int .i64 j ∧ j ≤ M ∧ Hid (FrsAt w2 wr s o ⟨none, 0, 0⟩ [] [])) (fun i _ => M - (intOf i).toNat)
      case atStart => exact ⟨0, rfl, Nat.zero_le _, HFC⟩
      case round =>
        obtain ⟨j, rfl, hj, hF⟩ := hrel
        have j0 : (0 : Int) ≤ j := by omega
        by_cases hlt : j < M
        · have j1 : (j : Int) < M := by omega
          have jb : (j : Int) < 30 := by omega
          go_wp2_with fail
          refine (HCALL.out _ hF.out).mono ?_
          rintro e w4 ⟨rfl, hb4⟩
          have HF4 := Lib.hid (frs_below hF.out hb4)
          clear hb4
          go_wp2_with fail
          go_roundw
          case rel => exact ⟨j + 1, by go_num, by omega, HF4⟩
          case measure => simp only [intOf]; omega
        · have j1 : ¬ ((j : Int) < M) := by omega
          have HL := Lib.hid (flen_any hF.out)
          rw [List.length_nil] at HL
          go_wp2_with fail
          go_loopw [12] (fun _ wr => Hid (FrsAt w2 wr s o ⟨none, 0, 0⟩ [] [])) (fun _ wr => lenAt wr s)
          case atStart => exact hF
          case round =>
            have hF := hrel
            have HL := Lib.hid (flen_any hF.out)
            rw [List.length_nil] at HL
            go_wp2_with fail
            refine HL.out.mono ?_
            rintro e w5 ⟨rfl, rfl⟩
            go_wp2_with fail
            refine (fret_none hF.out).mono ?_
            rintro e w6 ⟨rfl, rfl⟩
            go_wp2_with fail
            refine (awake28 _).mono ?_
            rintro e w7 ⟨rfl, hb7⟩
            go_wp2_with fail
            go_ret
            exact ⟨rfl, b_call HB2.out (b_call hF.out.be hb7)⟩
end Go.Proofs.Ytdmidnmciaediaa
