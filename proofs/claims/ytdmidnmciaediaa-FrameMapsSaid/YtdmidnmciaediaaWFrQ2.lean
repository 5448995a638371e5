/- FrameMaps, walked: whatever the program and the calls, the answer is true. Conditions: the program, the calls read as lists. -/
import Derived.Test.YtdmidnmciaediaaWFrQ
import Derived.Test.YtdmidnmciaediaaWFrO3
namespace Go.Proofs.Ytdmidnmciaediaa
open Go.RowKit
set_option linter.unusedVariables false
set_option linter.unusedSimpArgs false
attribute [local go_sem] over_cell over_frozen
variable {w0 w w' : World} {r s : Nat} {p q : PrV} {P : PrM} {L : List FrM} {v0 : World} {n0 : Nat}
theorem both_right {W w : World} {C : PrM} {o : PrV} (h : BothAt W q C L w s r o) (hR : ReadP W q C) (hS : SmallP C) {a : Option Addr} {n c : Nat} {Fx : FxM} (hf : FacR w (.slice a n c) Fx) : Calls Try.prog 34 #[rp r, .slice a n c] w fun e w' => e = .returned (.bool (rightM C Fx L)) ∧ Below w.heap.size w w' := by
  have hb := both_be h
  obtain ⟨lv, hd⟩ := h.da
  exact dright_any hd (readP_below hR hb) hS h.iv a n c Fx hf
set_option maxRecDepth 100000 in
set_option maxHeartbeats 16000000 in
theorem frameMaps_any (p : PrV) (P : PrM) (u : Value) (M : List OpM) (w : World) (h : ReadP w p P) (hM : OpsR w u M) : Calls Try.prog 6 #[aggP p, u] w fun e w' => e = .returned (.bool true) ∧ Below w.heap.size w w' := by
  have H := Lib.hid h
  have HM := Lib.hid hM
  obtain ⟨C, hC⟩ : ∃ C, C = cutP P := ⟨_, rfl⟩
  have HC := Lib.hid hC
  have HSM : Hid (SmallP C) := by show SmallP C; rw [hC]; exact small_cut P
  obtain ⟨u0, ⟨ga, gn, gc⟩, m, ⟨fa, fn, fc⟩⟩ := p
  obtain ⟨V, hV, hVl, hVk⟩ := hM
  obtain ⟨ua, uc, rfl, hu2, hu3⟩ := readR_len hV
  have hucap := cap_le hu3
  have HV := Lib.hid hV
  have HVk := Lib.hid hVk
  clear h hC hV hVk hu3
  unfold aggP Sl.v
  simp only
  have HB0 := Lib.hid (b_alloc (Below.refl w.heap.size w) (.cells #[.bool u0, .slice ga gn gc, .int .i64 m, .slice fa fn fc] 25))
  have HX0 := Lib.hid (blk_new w #[.bool u0, .slice ga gn gc, .int .i64 m, .slice fa fn fc] 25)
  go_enter Try.func6, Try.ntmps6
  go_wp2_with fail
  refine (cut_made ⟨u0, ⟨ga, gn, gc⟩, m, ⟨fa, fn, fc⟩⟩ P w _ H.out HB0.out).mono ?_
  rintro e w1 ⟨q, rfl, hcm, hb1⟩
  rw [← HC.out] at hcm
  obtain ⟨qu, ⟨qa, qn, qc⟩, qm, ⟨ra, rn, rc⟩⟩ := q
  have BX1 := blk_below HX0.out hb1
  have HB1 := Lib.hid (b_call HB0.out hb1)
  have HCM := Lib.hid hcm
  have hl1 := BX1.1
  have HX1 := Lib.hid BX1
  obtain ⟨c0, c1, c2, c3, cf⟩ := blk4 BX1
  clear hcm hb1 BX1
  unfold aggP Sl.v
  simp only
  go_upto_region 2 with fail
  refine wp_named ?_
  intro Wa hWa
  have BW : Blk Wa w.heap.size [.bool qu, .slice qa qn qc, .int .i64 qm, .slice ra rn rc] := by rw [hWa]; exact blk_set (blk_set (blk_set (blk_set HX1.out 0 _) 1 _) 2 _) 3 _
  have GW := gb_set (gb_set (gb_set (gb_set (gb_refl w1 (some w.heap.size)) 0 none (.bool qu)) 1 none (.slice qa qn qc)) 2 none (.int .i64 qm)) 3 none (.slice ra rn rc)
  rw [← hWa] at GW
  have hBW : Below w.heap.size w Wa := b_grown HB1.out GW (Nat.le_refl _)
  have RW : ReadP Wa ⟨qu, ⟨qa, qn, qc⟩, qm, ⟨ra, rn, rc⟩⟩ C := cutMade_read (cutMade_grown HCM.out GW (by simp)) hBW
  have HR := Lib.hid RW
  have HBW := Lib.hid hBW
  have HK : Hid (∀ w', Below Wa.heap.size Wa w' → ((w'.cell? ⟨w.heap.size, 0, none⟩ = some (.bool qu) ∧ w'.cell? ⟨w.heap.size, 1, none⟩ = some (.slice qa qn qc)) ∧ (w'.cell? ⟨w.heap.size, 2, none⟩ = some (.int .i64 qm) ∧ w'.cell? ⟨w.heap.size, 3, none⟩ = some (.slice ra rn rc))) ∧ w.heap.size < w'.heap.size) := Lib.hid (fun w' hb => by
    obtain ⟨y0, y1, y2, y3, _⟩ := blk4 (blk_below BW hb); exact ⟨⟨⟨y0, y1⟩, y2, y3⟩, (blk_below BW hb).1⟩)
  clear hWa GW hBW RW c0 c1 c2 c3 cf BW HX1 hl1 HCM HB1
  have HCK := Lib.hid (rcheck_fx ⟨qu, ⟨qa, qn, qc⟩, qm, ⟨ra, rn, rc⟩⟩ C Wa HR.out HSM.out)
  have HQ3 := Lib.hid (fxQ_check HSM.out)
  obtain ⟨F3, hF3⟩ : ∃ F3, F3 = factsOf (checkM C) := ⟨_, rfl⟩
  rw [← hF3] at HCK HQ3
  clear hF3
  unfold aggP Sl.v at HCK
  simp only at HCK
  obtain ⟨⟨⟨c0, c1⟩, c2', c3⟩, cz⟩ := HK.out Wa (Below.refl _ _)
  go_wp2_with fail
  refine HCK.out.mono ?_
  rintro e w3 ⟨a3, c3', x, y, z, rfl, hf3, _, _, hb3⟩
  have HFR3 := Lib.hid hf3
  have HBa3 := Lib.hid hb3
  clear hf3 hb3 HCK c0 c1 c2' c3 cz
  go_upto_region 3 with fail
  refine wp_named ?_
  intro W hW
  have SW : Blk W w3.heap.size [.int .i64 x, .int .i64 y, .int .i64 z] ∧ Below w3.heap.size w3 W := by
    rw [hW]; exact ⟨blk_new _ _ _, b_alloc (Below.refl _ _) _⟩
  have HBa := Lib.hid (b_call HBa3.out SW.2)
  have HF3 := Lib.hid (facR_below HFR3.out SW.2)
  have wc2 := SW.1.2.1 2 (by simp)
  simp only [List.getElem_cons_succ, List.getElem_cons_zero] at wc2
  have wcz := SW.1.1
  clear hW SW HFR3 HBa3
  have HRW : Hid (ReadP W ⟨qu, ⟨qa, qn, qc⟩, qm, ⟨ra, rn, rc⟩⟩ C) := Lib.hid (readP_below HR.out HBa.out)
  replace HBW := Lib.hid (b_call HBW.out HBa.out)
  have HKW : Hid (∀ w', Below W.heap.size W w' → (w'.cell? ⟨w.heap.size, 0, none⟩ = some (.bool qu) ∧ w'.cell? ⟨w.heap.size, 1, none⟩ = some (.slice qa qn qc)) ∧ (w'.cell? ⟨w.heap.size, 2, none⟩ = some (.int .i64 qm) ∧ w'.cell? ⟨w.heap.size, 3, none⟩ = some (.slice ra rn rc))) := Lib.hid (fun w' hb => (HK.out w' (b_call HBa.out hb)).1)
  clear HK HR HBa
  have HK := HKW
  have HR := HRW
  clear HKW HRW
  by_cases hz : z = 0
  · subst hz
    go_upto_region 5 with fail
    clear wc2 wcz
    go_cut [7, 8] (fun sv rv wx => ∃ (s r : Nat) (o : PrV), sv = fp s ∧ rv = rp r ∧ Hid (BothAt W ⟨qu, ⟨qa, qn, qc⟩, qm, ⟨ra, rn, rc⟩⟩ C [] wx s r o))
    case first =>
      refine wp_region_held_drew (S := fun w' => (w'.cell? ⟨w.heap.size, 0, none⟩ = some (.bool qu) ∧ w'.cell? ⟨w.heap.size, 1, none⟩ = some (.slice qa qn qc)) ∧ (w'.cell? ⟨w.heap.size, 2, none⟩ = some (.int .i64 qm) ∧ w'.cell? ⟨w.heap.size, 3, none⟩ = some (.slice ra rn rc))) (by kernel_rfl) (HK.out _ (b_drew (Below.refl _ _))) (fun hHeld => ?_)
      (refine wpAnyH_take (i := 0) (v := ?_) rfl (by kernel_rfl) (by kernel_rfl) (by kernel_rfl) (fun _ _ _ h => h) (Or.inl ⟨by rfl, ?_⟩) hHeld ?_; rotate_left; (focus (intro w hSw; (try dsimp only at hSw); go_simp; try (with_reducible rfl))); (try simp only [Act.put, List.getElem_toArray, List.getElem_cons_succ, List.getElem_cons_zero, List.setIfInBounds_toArray, List.set_cons_zero, List.set_cons_succ]))
      refine atI 3 ?_
      iterate 2 (refine takeN (v := ?_) rfl (by rfl) ?_ hHeld ?_; rotate_left; (focus (intro w hSw; (try dsimp only at hSw); go_simp; try (with_reducible rfl))); (try simp only [Act.put, Nat.reduceAdd, List.getElem_toArray, List.getElem_cons_succ, List.getElem_cons_zero, List.setIfInBounds_toArray, List.set_cons_zero, List.set_cons_succ]))
      refine atIo ?_
      refine wpAnyH_named ?_
      intro tz htz
      have HBtz : Hid (Below W.heap.size W tz) := Lib.hid (by rw [htz]; exact b_drew (Below.refl _ _))
      clear htz
      refine wpAnyH_ready (rs := [1, 5]) (by kernel_rfl) (by simp) (AllReadyH.cons rfl (fun K hK => ?_) (AllReadyH.cons rfl (fun K hK => ?_) AllReadyH.nil))
      · skip
        go_simp
        refine (ours25_made ⟨qu, ⟨qa, qn, qc⟩, qm, ⟨ra, rn, rc⟩⟩ C _ (readP_below HR.out HBtz.out) HSM.out).mono ?_
        rintro e t1 ⟨o, rfl, ho, hb⟩
        have HO := Lib.hid (madeB_made ho)
        have HBt1 := Lib.hid (b_call HBtz.out hb)
        clear ho hb
        refine hK.out _ _ (HK.out _ HBt1.out) (fun hHeld => ?_)
        clear hK K
        (try simp only [Act.put, List.getElem_toArray, List.getElem_cons_succ, List.getElem_cons_zero, List.setIfInBounds_toArray, List.set_cons_zero, List.set_cons_succ])
        refine wpAnyH_ready (rs := [2, 5]) (by kernel_rfl) (by simp) (AllReadyH.cons rfl (fun K hK => ?_) (AllReadyH.cons rfl (fun K hK => ?_) AllReadyH.nil))
        · skip
          go_simp
          refine (fnew_any o (Below.refl _ _)).mono ?_
          rintro e t2 ⟨s, rfl, hf, hs, hb⟩
          have HPA : Hid (PAt W.heap.size t2 s o C []) := Lib.hid (pat_new HO.out hf HBt1.out.size)
          have HBt2 := Lib.hid (b_call HBt1.out hb)
          clear hf hs hb
          refine hK.out _ _ (HK.out _ HBt2.out) (fun hHeld => ?_)
          clear hK K
          (try simp only [Act.put, List.getElem_toArray, List.getElem_cons_succ, List.getElem_cons_zero, List.setIfInBounds_toArray, List.set_cons_zero, List.set_cons_succ])
          (refine wpAnyH_take (i := 6) (v := ?_) rfl (by kernel_rfl) (by kernel_rfl) (by kernel_rfl) (fun _ _ _ h => h) (Or.inl ⟨by rfl, ?_⟩) hHeld ?_; rotate_left; (focus (intro w hSw; (try dsimp only at hSw); go_simp; try (with_reducible rfl))); (try simp only [Act.put, List.getElem_toArray, List.getElem_cons_succ, List.getElem_cons_zero, List.setIfInBounds_toArray, List.set_cons_zero, List.set_cons_succ]))
          refine wpAnyH_ready (rs := [5]) (by kernel_rfl) (by simp) (AllReadyH.cons rfl (fun K hK => ?_) AllReadyH.nil)
          go_simp
          refine hK.out _ _ (HK.out _ (b_alloc HBt2.out _)) (fun hHeld => ?_)
          clear hK K
          (try simp only [Act.put, List.getElem_toArray, List.getElem_cons_succ, List.getElem_cons_zero, List.setIfInBounds_toArray, List.set_cons_zero, List.set_cons_succ])
          refine wpAnyH_named ?_
          intro t3 ht3
          have hb : Below t2.heap.size t2 t3 := by rw [ht3]; exact b_alloc (Below.refl _ _) _
          have HBt3 := Lib.hid (b_call HBt2.out hb)
          obtain ⟨R, hR⟩ : ∃ R, R = t2.heap.size := ⟨_, rfl⟩
          rw [← hR]
          have HBX : Hid (Blk t3 R [.bool qu, .slice qa qn qc, .int .i64 qm, .slice ra rn rc, .slice none 0 0] ∧ tyB t3 R = some RFS) := Lib.hid (by rw [ht3, hR]; exact ⟨blk_new _ _ _, tyB_new _ _ _⟩)
          have HRL : Hid (W.heap.size ≤ R) := Lib.hid (by rw [hR]; exact HBt2.out.size)
          replace HPA := Lib.hid (pat_below HPA.out hb)
          clear hb ht3 hR
          replace hHeld := HK.out _ HBt3.out
          (refine wpAnyH_take (i := 7) (v := ?_) rfl (by kernel_rfl) (by kernel_rfl) (by kernel_rfl) (fun _ _ _ h => h) (Or.inl ⟨by rfl, ?_⟩) hHeld ?_; rotate_left; (focus (intro w hSw; (try dsimp only at hSw); go_simp; try (with_reducible rfl))); (try simp only [Act.put, List.getElem_toArray, List.getElem_cons_succ, List.getElem_cons_zero, List.setIfInBounds_toArray, List.set_cons_zero, List.set_cons_succ]))
          refine wpAnyH_done (by kernel_rfl) ?_ _
          go_wp2_with fail
          go_meet
          case rel => exact ⟨s, R, o, rfl, rfl, Lib.hid ⟨HPA.out, dat_new HBt3.out HRL.out HBX.out.1 HBX.out.2, by simp, fun m hm => by cases hm⟩⟩
        · skip
          go_simp
          refine hK.out _ _ (HK.out _ (b_alloc HBt1.out _)) (fun hHeld => ?_)
          clear hK K
          (try simp only [Act.put, List.getElem_toArray, List.getElem_cons_succ, List.getElem_cons_zero, List.setIfInBounds_toArray, List.set_cons_zero, List.set_cons_succ])
          refine wpAnyH_named ?_
          intro t4 ht4
          have hb : Below t1.heap.size t1 t4 := by rw [ht4]; exact b_alloc (Below.refl _ _) _
          have HBt4 := Lib.hid (b_call HBt1.out hb)
          obtain ⟨R, hR⟩ : ∃ R, R = t1.heap.size := ⟨_, rfl⟩
          rw [← hR]
          have HBX : Hid (Blk t4 R [.bool qu, .slice qa qn qc, .int .i64 qm, .slice ra rn rc, .slice none 0 0] ∧ tyB t4 R = some RFS) := Lib.hid (by rw [ht4, hR]; exact ⟨blk_new _ _ _, tyB_new _ _ _⟩)
          have HRL : Hid (W.heap.size ≤ R) := Lib.hid (by rw [hR]; exact HBt1.out.size)
          replace HO := Lib.hid (madeP_below HO.out hb)
          clear hb ht4 hR
          replace hHeld := HK.out _ HBt4.out
          refine wpAnyH_ready (rs := [2]) (by kernel_rfl) (by simp) (AllReadyH.cons rfl (fun K hK => ?_) AllReadyH.nil)
          go_simp
          refine (fnew_any o (Below.refl _ _)).mono ?_
          rintro e t5 ⟨s, rfl, hf, hs, hb⟩
          have HPA : Hid (PAt W.heap.size t5 s o C []) := Lib.hid (pat_new HO.out hf HBt4.out.size)
          have HBt5 := Lib.hid (b_call HBt4.out hb)
          replace HBX := Lib.hid (And.intro (blk_below HBX.out.1 hb) (tyB_call HBX.out.2 hb))
          clear hf hs hb
          refine hK.out _ _ (HK.out _ HBt5.out) (fun hHeld => ?_)
          clear hK K
          (try simp only [Act.put, List.getElem_toArray, List.getElem_cons_succ, List.getElem_cons_zero, List.setIfInBounds_toArray, List.set_cons_zero, List.set_cons_succ])
          refine atI 6 ?_
          iterate 2 (refine takeN (v := ?_) rfl (by rfl) ?_ hHeld ?_; rotate_left; (focus (intro w hSw; (try dsimp only at hSw); go_simp; try (with_reducible rfl))); (try simp only [Act.put, Nat.reduceAdd, List.getElem_toArray, List.getElem_cons_succ, List.getElem_cons_zero, List.setIfInBounds_toArray, List.set_cons_zero, List.set_cons_succ]))
          refine atIo ?_
          refine wpAnyH_done (by kernel_rfl) ?_ _
          go_wp2_with fail
          go_meet
          case rel => exact ⟨s, R, o, rfl, rfl, Lib.hid ⟨HPA.out, dat_new HBt5.out HRL.out HBX.out.1 HBX.out.2, by simp, fun m hm => by cases hm⟩⟩
      · skip
        go_simp
        refine hK.out _ _ (HK.out _ (b_alloc HBtz.out _)) (fun hHeld => ?_)
        clear hK K
        (try simp only [Act.put, List.getElem_toArray, List.getElem_cons_succ, List.getElem_cons_zero, List.setIfInBounds_toArray, List.set_cons_zero, List.set_cons_succ])
        refine wpAnyH_named ?_
        intro t6 ht6
        have hb : Below tz.heap.size tz t6 := by rw [ht6]; exact b_alloc (Below.refl _ _) _
        have HBt6 := Lib.hid (b_call HBtz.out hb)
        obtain ⟨R, hR⟩ : ∃ R, R = tz.heap.size := ⟨_, rfl⟩
        rw [← hR]
        have HBX : Hid (Blk t6 R [.bool qu, .slice qa qn qc, .int .i64 qm, .slice ra rn rc, .slice none 0 0] ∧ tyB t6 R = some RFS) := Lib.hid (by rw [ht6, hR]; exact ⟨blk_new _ _ _, tyB_new _ _ _⟩)
        have HRL : Hid (W.heap.size ≤ R) := Lib.hid (by rw [hR]; exact HBtz.out.size)
        clear hb ht6 hR
        replace hHeld := HK.out _ HBt6.out
        refine wpAnyH_ready (rs := [1]) (by kernel_rfl) (by simp) (AllReadyH.cons rfl (fun K hK => ?_) AllReadyH.nil)
        go_simp
        refine (ours25_made ⟨qu, ⟨qa, qn, qc⟩, qm, ⟨ra, rn, rc⟩⟩ C _ (readP_below HR.out HBt6.out) HSM.out).mono ?_
        rintro e t7 ⟨o, rfl, ho, hb⟩
        have HO := Lib.hid (madeB_made ho)
        have HBt7 := Lib.hid (b_call HBt6.out hb)
        replace HBX := Lib.hid (And.intro (blk_below HBX.out.1 hb) (tyB_call HBX.out.2 hb))
        clear ho hb
        refine hK.out _ _ (HK.out _ HBt7.out) (fun hHeld => ?_)
        clear hK K
        (try simp only [Act.put, List.getElem_toArray, List.getElem_cons_succ, List.getElem_cons_zero, List.setIfInBounds_toArray, List.set_cons_zero, List.set_cons_succ])
        refine wpAnyH_ready (rs := [2]) (by kernel_rfl) (by simp) (AllReadyH.cons rfl (fun K hK => ?_) AllReadyH.nil)
        go_simp
        refine (fnew_any o (Below.refl _ _)).mono ?_
        rintro e t8 ⟨s, rfl, hf, hs, hb⟩
        have HPA : Hid (PAt W.heap.size t8 s o C []) := Lib.hid (pat_new HO.out hf HBt7.out.size)
        have HBt8 := Lib.hid (b_call HBt7.out hb)
        replace HBX := Lib.hid (And.intro (blk_below HBX.out.1 hb) (tyB_call HBX.out.2 hb))
        clear hf hs hb
        refine hK.out _ _ (HK.out _ HBt8.out) (fun hHeld => ?_)
        clear hK K
        (try simp only [Act.put, List.getElem_toArray, List.getElem_cons_succ, List.getElem_cons_zero, List.setIfInBounds_toArray, List.set_cons_zero, List.set_cons_succ])
        refine atI 6 ?_
        iterate 2 (refine takeN (v := ?_) rfl (by rfl) ?_ hHeld ?_; rotate_left; (focus (intro w hSw; (try dsimp only at hSw); go_simp; try (with_reducible rfl))); (try simp only [Act.put, Nat.reduceAdd, List.getElem_toArray, List.getElem_cons_succ, List.getElem_cons_zero, List.setIfInBounds_toArray, List.set_cons_zero, List.set_cons_succ]))
        refine atIo ?_
        refine wpAnyH_done (by kernel_rfl) ?_ _
        go_wp2_with fail
        go_meet
        case rel => exact ⟨s, R, o, rfl, rfl, Lib.hid ⟨HPA.out, dat_new HBt8.out HRL.out HBX.out.1 HBX.out.2, by simp, fun m hm => by cases hm⟩⟩
    case rest =>
    obtain ⟨s, r, o, rfl, rfl, HBA⟩ := hcut
    unfold fp rp
    go_wp2_with fail
    go_loopw [30] (fun iv wr => ∃ k9 : Nat, k9 ≤ V.length ∧ iv = .int .i64 k9 ∧ Hid (∃ L, BothAt W ⟨qu, ⟨qa, qn, qc⟩, qm, ⟨ra, rn, rc⟩⟩ C L wr s r o)) (fun iv _ => V.length - (intOf iv).toNat)
    case atStart => exact ⟨0, Nat.zero_le _, rfl, Lib.hid ⟨[], HBA.out⟩⟩
    case round =>
      obtain ⟨W1, hW1⟩ : ∃ x, x = wr := ⟨_, rfl⟩
      subst hW1
      obtain ⟨k9, hk9, rfl, HBL⟩ := hrel
      obtain ⟨L, hbl⟩ := HBL.out
      have HBT := Lib.hid hbl
      have HBW1 : Hid (Below w.heap.size w W1) := Lib.hid (b_call HBW.out (both_be HBT.out))
      clear hbl HBL
      have i0 : (0 : Int) ≤ k9 := by omega
      by_cases hlt : k9 < V.length
      · have i1 : (k9 : Int) < V.length := by omega
        have ic : (k9 : Int) < uc := by omega
        obtain ⟨bl, off, cp, e1, r1, r2, hbl, r4⟩ := readR_pos (readR_below HV.out HBW1.out) (by omega)
        injection e1 with e1 e1b e3
        subst e1
        have d0 : W1.cell? ⟨bl, off + k9 * 7, none⟩ = some (.int .i64 V[k9].kind) := r4 k9 hlt 0 (by decide)
        have d1 : W1.cell? ⟨bl, off + k9 * 7 + 1, none⟩ = some (.int .i64 V[k9].f) := r4 k9 hlt 1 (by decide)
        have d2 : W1.cell? ⟨bl, off + k9 * 7 + 2, none⟩ = some (.int .i64 V[k9].k) := r4 k9 hlt 2 (by decide)
        have d3 : W1.cell? ⟨bl, off + k9 * 7 + 3, none⟩ = some (.int .i64 V[k9].v.k) := r4 k9 hlt 3 (by decide)
        have d4 : W1.cell? ⟨bl, off + k9 * 7 + 4, none⟩ = some (.int .u64 V[k9].v.b) := r4 k9 hlt 4 (by decide)
        have d5 : W1.cell? ⟨bl, off + k9 * 7 + 5, none⟩ = some (.slice V[k9].s.a V[k9].s.n V[k9].s.c) := r4 k9 hlt 5 (by decide)
        have d6 : W1.cell? ⟨bl, off + k9 * 7 + 6, none⟩ = some (.bool V[k9].fit) := r4 k9 hlt 6 (by decide)
        obtain ⟨om, hom⟩ : ∃ om, OpOk w V[k9] om := ⟨_, HVk.out k9 hlt (by omega)⟩
        generalize V[k9] = v at *
        obtain ⟨kd, f, k, ⟨vk, vb⟩, ⟨sa, sn, sc⟩, ft⟩ := v
        obtain ⟨okd, of, ok, ov, oA, oft⟩ := om
        obtain ⟨g0, g1, g2, g3, g4, g5, g6⟩ := hom
        simp only at d0 d1 d2 d3 d4 d5 d6 g0 g1 g2 g3 g4 g5 g6
        subst g0 g1 g2 g3 g4 g5
        have HA := Lib.hid (readR_below g6 HBW.out)
        clear r4 r1 r2 e1b e3 g6
        go_upto_region 9 with fail
        refine wp_named ?_
        intro W2 hW2
        have HX2 : Hid (Blk W2 W1.heap.size [.int .i64 kd, .int .i64 f, .int .i64 k, .int .i64 vk, .int .u64 vb, .slice sa oA.length sc, .bool ft]) := Lib.hid (by rw [hW2]; exact blk_new _ _ _)
        have HB12 : Hid (Below W1.heap.size W1 W2) := Lib.hid (by rw [hW2]; exact b_alloc (Below.refl _ _) _)
        have HBT2 := Lib.hid (both_below HBT.out HB12.out)
        clear hW2 d0 d1 d2 d3 d4 d5 d6 hbl
        by_cases h40 : (k9 : Int) ≥ 40
        · have HEND := Lib.hid (b_call HBW1.out HB12.out)
          go_wp2_with fail
          refine (awake28 _).mono ?_
          rintro e w8 ⟨rfl, hb8⟩
          have HB8 := Lib.hid (b_call HEND.out hb8)
          clear hb8
          go_wp2_with fail
          go_ret
          exact ⟨rfl, HB8.out⟩
        · obtain ⟨y0, y1, y2, y3, y4, y5, y6, yf⟩ := blk7z HX2.out
          have yz := HX2.out.1
          have HST := Lib.hid (lstep_any HBT2.out.pa HBT2.out.da (Nat.le_refl _) HR.out HSM.out HBT2.out.iv ⟨kd, f, k, ⟨vk, vb⟩, oA, ft⟩ HA.out)
          unfold aggOp fp rp at HST
          simp only at HST
          go_wp2_with fail
          refine HST.out.mono ?_
          rintro e t9 ⟨rfl, L2, hp2, hd2, hi2⟩
          have HBT9 : Hid (BothAt W ⟨qu, ⟨qa, qn, qc⟩, qm, ⟨ra, rn, rc⟩⟩ C L2 t9 s r o) := Lib.hid ⟨hp2, hd2, hi2⟩
          clear hp2 hd2 hi2 HST y0 y1 y2 y3 y4 y5 y6 yf yz
          have HFW : Hid (FacR t9 (.slice a3 F3.length c3') F3) := Lib.hid (facR_below HF3.out (both_be HBT9.out))
          have HXL := Lib.hid (refsAll_le HBT9.out.iv.n (linv_small HSM.out HBT9.out.iv))
          have HC0 := Lib.hid (both_right HBT9.out HR.out HSM.out HFW.out)
          have HC1 := Lib.hid (fun w' (hb : Below t9.heap.size t9 w') => both_refs (both_below HBT9.out hb) HSM.out)
          have HC4 := Lib.hid (fun w' (hb : Below t9.heap.size t9 w') a n c (hf : FacR w' (.slice a n c) F3) => both_maps (both_below HBT9.out hb) HSM.out hf HQ3.out)
          have HEQR := Lib.hid (fun (hr : rightM C F3 L2 = true) => right_all L2 hr (linv_kinds HBT9.out.iv))
          obtain ⟨tr, htr⟩ : ∃ tr, tr = rightM C F3 L2 := ⟨_, rfl⟩
          rw [← htr] at HC0 HEQR
          unfold fp at HC1 HC4
          unfold rp at HC0
          clear htr
          go_wp2_with fail
          refine HC0.out.mono ?_
          rintro e w1 ⟨rfl, hb1⟩
          have HB1 := Lib.hid hb1
          clear hb1 HC0
          cases tr with
          | false =>
            go_wp2_with fail
            go_roundw
            case rel => exact ⟨k9 + 1, by omega, by first | rfl | go_num, Lib.hid ⟨L2, both_below HBT9.out HB1.out⟩⟩
            case measure => simp [intOf]; omega
          | true =>
            rw [HEQR.out rfl] at HC4
            obtain ⟨XR, hXR⟩ : ∃ XR, XR = refsAll L2 := ⟨_, rfl⟩
            rw [← hXR] at HXL HC1 HC4
            clear hXR HEQR
            have HFA := Lib.hid (facts28_any (.slice a3 F3.length c3') F3 w1 (facR_below HFW.out HB1.out) HQ3.out.f HQ3.out.r)
            go_wp2_with fail
            refine HFA.out.mono ?_
            rintro e w4 ⟨b4, d4, rfl, hf4, hb4⟩
            have HB4 := Lib.hid (b_call HB1.out hb4); have HF4 := Lib.hid hf4
            clear hf4 hb4 HFA
            go_wp2_with fail
            refine (HC4.out _ HB4.out _ _ _ HF4.out).mono ?_
            rintro e w5 ⟨b5, d5, rfl, hr5, hb5⟩
            have HB5 := Lib.hid (b_call HB4.out hb5); have HR5 := Lib.hid hr5
            clear hr5 hb5
            go_wp2_with fail
            refine (HC1.out _ HB5.out).mono ?_
            rintro e w6 ⟨b6, d6, rfl, hr6, hb6⟩
            have HB6 := Lib.hid (b_call HB5.out hb6); have HR6 := Lib.hid hr6
            have HR56 := Lib.hid (readI_below HR5.out hb6)
            clear hr6 hb6
            have HS2 := Lib.hid (rsame_self _ _ XR w6 HR56.out HR6.out HXL.out)
            go_wp2_with fail
            refine HS2.out.mono ?_
            rintro e w7 ⟨rfl, hb7⟩
            have HB7 := Lib.hid (b_call HB6.out hb7)
            clear hb7 HS2
            go_wp2_with fail
            go_roundw
            case rel => exact ⟨k9 + 1, by omega, by first | rfl | go_num, Lib.hid ⟨L2, both_below HBT9.out HB7.out⟩⟩
            case measure => simp [intOf]; omega
      · have i1 : ¬ ((k9 : Int) < V.length) := by omega
        have HEND := HBW1
        go_wp2_with fail
        refine (awake28 _).mono ?_
        rintro e w8 ⟨rfl, hb8⟩
        have HB8 := Lib.hid (b_call HEND.out hb8)
        clear hb8
        go_wp2_with fail
        go_ret
        exact ⟨rfl, HB8.out⟩
  · have hzn : (z != 0) = true := by simp [hz]
    have HEND := HBW
    clear hz
    go_wp2_with fail
    refine (awake28 _).mono ?_
    rintro e w8 ⟨rfl, hb8⟩
    have HB8 := Lib.hid (b_call HEND.out hb8)
    clear hb8
    go_wp2_with fail
    go_ret
    exact ⟨rfl, HB8.out⟩
end Go.Proofs.Ytdmidnmciaediaa
