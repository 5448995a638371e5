/- FrameRefs, walked: whatever the program and the calls, the answer is true. Conditions: the program, the calls, the facts read as lists. -/
import Derived.Test.YtdmidnmciaediaaWFrO2
import Derived.Test.YtdmidnmciaediaaWMap4
import Derived.Test.YtdmidnmciaediaaWFrL
namespace Go.Proofs.Ytdmidnmciaediaa
open Go.RowKit
set_option linter.unusedVariables false
set_option linter.unusedSimpArgs false
attribute [local go_sem] over_cell over_frozen
variable {w0 w w' : World} {r s : Nat} {p q : PrV} {P : PrM} {L : List FrM} {v0 : World} {n0 : Nat}
/-- Facts that are not more than a machine can hold. -/
structure FxQ (Fx : FxM) : Prop where
  f : Fx.length ≤ 17
  r : ∀ l ∈ Fx, l.length ≤ 4398046511103
  k : ∀ i j, (factM Fx i j).2.length ≤ 17592186044415
theorem fxQ_check {P : PrM} (hP : SmallP P) : FxQ (factsOf (checkM P)) := ⟨(fxOk_check hP).f, fun l hl => Nat.le_trans ((fxOk_check hP).c l hl) (by decide), (fxOk_check hP).k⟩
theorem factM_in {Fx : FxM} (h : ∀ i j, (factM Fx i j).2.length ≤ 17592186044415) (i j : Nat) : (factM (Fx.take 6) i j).2.length ≤ 17592186044415 := by
  unfold factM
  by_cases hi : i < (Fx.take 6).length
  · have hi2 : i < Fx.length := by rw [List.length_take] at hi; omega
    rw [getD_at hi, List.getElem_take]
    have z := h i j
    unfold factM at z
    rw [getD_at hi2] at z
    exact z
  · rw [List.getD_eq_getElem?_getD (l := Fx.take 6), List.getElem?_eq_none (by omega)]; simp
theorem fxQ_take {Fx : FxM} (hr : ∀ l ∈ Fx, l.length ≤ 4398046511103) (hk : ∀ i j, (factM Fx i j).2.length ≤ 17592186044415) : FxQ (Fx.take 6) :=
  ⟨by rw [List.length_take]; omega, fun l hl => hr l (List.mem_of_mem_take hl), factM_in hk⟩
theorem facR_take6 {w : World} {a : Option Addr} {n c : Nat} {Fx : FxM} (h : FacR w (.slice a n c) Fx) (hn : 6 ≤ Fx.length) : FacR w (.slice a 6 c) (Fx.take 6) := by
  obtain ⟨L, h1, h2, h3⟩ := h
  refine ⟨L.take 6, readR_take h1 (by omega), by simp [h2], fun k hk hk' => ?_⟩
  rw [List.getElem_take, List.getElem_take]
  exact h3 k _ _
/-- What a row of references is compared with: itself. -/
theorem rsame_self (u v : Value) (X : List Int) (w : World) (h : ReadI w u X) (h' : ReadI w v X) (hl : X.length ≤ 4800) : Calls Try.prog 29 #[u, v] w fun e w' => e = .returned (.bool true) ∧ Below w.heap.size w w' :=
  (rsame_any u v X X w h h' (by omega) (by omega)).mono (fun e w' ⟨h1, h2⟩ => ⟨by rw [h1, decide_eq_true rfl], h2⟩)
theorem refsAll_le {L : List FrM} (hL : L.length ≤ 24) (hm : ∀ m ∈ L, m.loc.length ≤ 100 ∧ m.stk.length ≤ 100) : (refsAll L).length ≤ 4800 := by
  have z := refsAll_len hL hm L.length
  rwa [List.take_length] at z
theorem mapsAll_le {P : PrM} {Fx : FxM} {L : List FrM} (hL : L.length ≤ 24) (hm : ∀ m ∈ L, m.loc.length ≤ 100 ∧ m.stk.length ≤ 100) : (mapsAll P Fx L).length ≤ 4800 := by
  have z := mapsAll_len (P := P) (Fx := Fx) hL hm L.length
  rwa [List.take_length] at z
/-- What both answer where they stand alike. -/
theorem both_refs {W w : World} {C : PrM} {o : PrV} (h : BothAt W q C L w s r o) (hS : SmallP C) : Calls Try.prog 30 #[fp s] w (FRefsEnd w (refsAll L)) := by
  obtain ⟨b0, lw, ds, B9, hm9, hf9, hn9⟩ := h.pa
  exact frefsall_any hf9 h.iv.n (linv_small hS h.iv)
theorem both_drefs {W w : World} {C : PrM} {o : PrV} (h : BothAt W q C L w s r o) (hR : ReadP W q C) (hS : SmallP C) : Calls Try.prog 31 #[rp r, .slice none 0 0, .bool false] w (FRefsEnd w (refsAll L)) := by
  have hb := both_be h
  obtain ⟨lv, hd⟩ := h.da
  exact drefsK_any hd (readP_below hR hb) hS h.iv none 0 0
theorem both_maps {W w : World} {C : PrM} {o : PrV} (h : BothAt W q C L w s r o) (hS : SmallP C) {a : Option Addr} {n c : Nat} {Fx : FxM} (hf : FacR w (.slice a n c) Fx) (hq : FxQ Fx) : Calls Try.prog 32 #[fp s, .slice a n c] w (FRefsEnd w (mapsAll C Fx L)) := by
  obtain ⟨b0, lw, ds, B9, hm9, hf9, hn9⟩ := h.pa
  exact fbymaps_any hf9 (readP_below (madeP_read hm9) hf9.be) hS a n c Fx hf hq.k h.iv.n (linv_small hS h.iv)
theorem both_dmaps {W w : World} {C : PrM} {o : PrV} (h : BothAt W q C L w s r o) (hR : ReadP W q C) (hS : SmallP C) {a : Option Addr} {n c : Nat} {Fx : FxM} (hf : FacR w (.slice a n c) Fx) : Calls Try.prog 31 #[rp r, .slice a n c, .bool true] w (FRefsEnd w (mapsAll C Fx L)) := by
  have hb := both_be h
  obtain ⟨lv, hd⟩ := h.da
  rw [maps_doc]
  exact drefsM_any hd (readP_below hR hb) hS h.iv a n c Fx hf
set_option maxRecDepth 100000 in
set_option maxHeartbeats 16000000 in
theorem frameRefs_any (p : PrV) (P : PrM) (u : Value) (M : List OpM) (v : Value) (Fx : FxM) (own : Bool) (w : World) (h : ReadP w p P) (hM : OpsR w u M) (hF : FacR w v Fx) (hFr : ∀ l ∈ Fx, l.length ≤ 4398046511103) (hFk : ∀ i j, (factM Fx i j).2.length ≤ 17592186044415) : Calls Try.prog 5 #[aggP p, u, v, .bool own] w fun e w' => e = .returned (.bool true) ∧ Below w.heap.size w w' := by
  obtain ⟨va, vc, rfl, vf2, vf3⟩ := facR_form hF
  have HF := Lib.hid hF; have HFr := Lib.hid hFr; have HFk := Lib.hid hFk
  clear hF hFr hFk
  have H := Lib.hid h
  have HM := Lib.hid hM
  obtain ⟨C, hC⟩ : ∃ C, C = cutP P := ⟨_, rfl⟩
  have HC := Lib.hid hC
  have HSM : Hid (SmallP C) := by show SmallP C; rw [hC]; exact small_cut P
  obtain ⟨u0, ⟨ga, gn, gc⟩, m, ⟨fa, fn, fc⟩⟩ := p
  obtain ⟨V, hV, hVl, hVk⟩ := hM
  obtain ⟨ua, uc, rfl, hu2, hu3⟩ := readR_len hV
  have hucap := cap_le hu3
  have HV := Lib.hid hV
  have HVk := Lib.hid hVk
  clear h hC hV hVk hu3
  unfold aggP Sl.v
  simp only
  have HB0 := Lib.hid (b_alloc (Below.refl w.heap.size w) (.cells #[.bool u0, .slice ga gn gc, .int .i64 m, .slice fa fn fc] 25))
  have HX0 := Lib.hid (blk_new w #[.bool u0, .slice ga gn gc, .int .i64 m, .slice fa fn fc] 25)
  go_enter Try.func5, Try.ntmps5
  go_wp2_with fail
  refine (cut_made ⟨u0, ⟨ga, gn, gc⟩, m, ⟨fa, fn, fc⟩⟩ P w _ H.out HB0.out).mono ?_
  rintro e w1 ⟨q, rfl, hcm, hb1⟩
  rw [← HC.out] at hcm
  obtain ⟨qu, ⟨qa, qn, qc⟩, qm, ⟨ra, rn, rc⟩⟩ := q
  have BX1 := blk_below HX0.out hb1
  have HB1 := Lib.hid (b_call HB0.out hb1)
  have HCM := Lib.hid hcm
  have hl1 := BX1.1
  have HX1 := Lib.hid BX1
  obtain ⟨c0, c1, c2, c3, cf⟩ := blk4 BX1
  clear hcm hb1 BX1
  unfold aggP Sl.v
  simp only
  go_upto_region 2 with fail
  refine wp_named ?_
  intro Wa hWa
  have BW : Blk Wa w.heap.size [.bool qu, .slice qa qn qc, .int .i64 qm, .slice ra rn rc] := by rw [hWa]; exact blk_set (blk_set (blk_set (blk_set HX1.out 0 _) 1 _) 2 _) 3 _
  have GW := gb_set (gb_set (gb_set (gb_set (gb_refl w1 (some w.heap.size)) 0 none (.bool qu)) 1 none (.slice qa qn qc)) 2 none (.int .i64 qm)) 3 none (.slice ra rn rc)
  rw [← hWa] at GW
  have hBW : Below w.heap.size w Wa := b_grown HB1.out GW (Nat.le_refl _)
  have RW : ReadP Wa ⟨qu, ⟨qa, qn, qc⟩, qm, ⟨ra, rn, rc⟩⟩ C := cutMade_read (cutMade_grown HCM.out GW (by simp)) hBW
  have HR := Lib.hid RW
  have HBW := Lib.hid hBW
  have HK : Hid (∀ w', Below Wa.heap.size Wa w' → ((w'.cell? ⟨w.heap.size, 0, none⟩ = some (.bool qu) ∧ w'.cell? ⟨w.heap.size, 1, none⟩ = some (.slice qa qn qc)) ∧ (w'.cell? ⟨w.heap.size, 2, none⟩ = some (.int .i64 qm) ∧ w'.cell? ⟨w.heap.size, 3, none⟩ = some (.slice ra rn rc))) ∧ w.heap.size < w'.heap.size) := Lib.hid (fun w' hb => by
    obtain ⟨y0, y1, y2, y3, _⟩ := blk4 (blk_below BW hb); exact ⟨⟨⟨y0, y1⟩, y2, y3⟩, (blk_below BW hb).1⟩)
  clear hWa GW hBW RW c0 c1 c2 c3 cf BW HX1 hl1 HCM HB1
  go_upto_if 17 with fail
  go_cut [2] (fun x wx => ∃ (F2 : FxM) (a2 : Option Addr) (c2 : Nat), x = .slice a2 F2.length c2 ∧ Hid (FacR wx (.slice a2 F2.length c2) F2) ∧ Hid (FxQ F2) ∧ Hid (Below Wa.heap.size Wa wx))
  case first =>
    by_cases h6 : (Fx.length : Int) > 6
    · have h7 : (6 : Int) ≤ vc := by omega
      have h8 : (Fx.take 6).length = 6 := by rw [List.length_take]; omega
      have HQT := Lib.hid (fxQ_take HFr.out HFk.out)
      have HFT := Lib.hid (facR_take6 (facR_below HF.out HBW.out) (by omega))
      obtain ⟨F6, hF6⟩ : ∃ F6, F6 = Fx.take 6 := ⟨_, rfl⟩
      rw [← hF6] at h8 HQT HFT
      have HL6 := Lib.hid h8
      clear hF6 h8
      go_wp2_with fail
      go_meet
      case rel => exact ⟨F6, va, vc, by rw [HL6.out], Lib.hid (by rw [HL6.out]; exact HFT.out), HQT, Lib.hid (Below.refl _ _)⟩
    · go_wp2_with fail
      go_meet
      case rel => exact ⟨Fx, va, vc, rfl, Lib.hid (facR_below HF.out HBW.out), Lib.hid ⟨by omega, HFr.out, HFk.out⟩, Lib.hid (Below.refl _ _)⟩
  case rest =>
  obtain ⟨F2, a2, c2, rfl, HF2, HQ2, HBa2⟩ := hcut
  obtain ⟨Wb, hWb⟩ : ∃ x, x = wc := ⟨_, rfl⟩
  subst hWb
  go_upto_if 20 with fail
  go_cut [2] (fun x wx => ∃ (F3 : FxM) (a3 : Option Addr) (c3 : Nat), x = .slice a3 F3.length c3 ∧ Hid (FacR wx (.slice a3 F3.length c3) F3) ∧ Hid (FxQ F3) ∧ Hid (Below Wa.heap.size Wa wx))
  case first =>
    cases own
    · go_wp2_with fail
      go_meet
      case rel => exact ⟨F2, a2, c2, rfl, HF2, HQ2, HBa2⟩
    · obtain ⟨⟨⟨c0, c1⟩, c2', c3⟩, cz⟩ := HK.out Wb HBa2.out
      have HCK := Lib.hid (rcheck_fx ⟨qu, ⟨qa, qn, qc⟩, qm, ⟨ra, rn, rc⟩⟩ C Wb (readP_below HR.out HBa2.out) HSM.out)
      have HOK3 := Lib.hid (fxQ_check HSM.out)
      obtain ⟨F3, hF3⟩ : ∃ F3, F3 = factsOf (checkM C) := ⟨_, rfl⟩
      rw [← hF3] at HCK HOK3
      clear hF3
      unfold aggP Sl.v at HCK
      simp only at HCK
      go_wp2_with fail
      refine HCK.out.mono ?_
      rintro e w3 ⟨a3, c3, x, y, z, rfl, hf3, _, _, hb3⟩
      have HFR3 := Lib.hid hf3
      have HB3 := Lib.hid (b_call HBa2.out hb3)
      clear hf3 hb3
      go_wp2_with fail
      go_meet
      case rel => exact ⟨F3, a3, c3, rfl, HFR3, HOK3, HB3⟩
  case rest =>
  obtain ⟨F3, a3, c3, rfl, HF3, HQ3, HBa⟩ := hcut
  obtain ⟨W, hW⟩ : ∃ x, x = wc := ⟨_, rfl⟩
  subst hW
  clear HF2 HQ2 HBa2
  have HRW : Hid (ReadP W ⟨qu, ⟨qa, qn, qc⟩, qm, ⟨ra, rn, rc⟩⟩ C) := Lib.hid (readP_below HR.out HBa.out)
  replace HBW := Lib.hid (b_call HBW.out HBa.out)
  have HKW : Hid (∀ w', Below W.heap.size W w' → (w'.cell? ⟨w.heap.size, 0, none⟩ = some (.bool qu) ∧ w'.cell? ⟨w.heap.size, 1, none⟩ = some (.slice qa qn qc)) ∧ (w'.cell? ⟨w.heap.size, 2, none⟩ = some (.int .i64 qm) ∧ w'.cell? ⟨w.heap.size, 3, none⟩ = some (.slice ra rn rc))) := Lib.hid (fun w' hb => (HK.out w' (b_call HBa.out hb)).1)
  clear HK HR HBa
  have HK := HKW
  have HR := HRW
  clear HKW HRW
  go_upto_region 6 with fail
  go_cut [9, 10] (fun sv rv wx => ∃ (s r : Nat) (o : PrV), sv = fp s ∧ rv = rp r ∧ Hid (BothAt W ⟨qu, ⟨qa, qn, qc⟩, qm, ⟨ra, rn, rc⟩⟩ C [] wx s r o))
  case first =>
    refine wp_region_held_drew (S := fun w' => (w'.cell? ⟨w.heap.size, 0, none⟩ = some (.bool qu) ∧ w'.cell? ⟨w.heap.size, 1, none⟩ = some (.slice qa qn qc)) ∧ (w'.cell? ⟨w.heap.size, 2, none⟩ = some (.int .i64 qm) ∧ w'.cell? ⟨w.heap.size, 3, none⟩ = some (.slice ra rn rc))) (by kernel_rfl) (HK.out _ (b_drew (Below.refl _ _))) (fun hHeld => ?_)
    (refine wpAnyH_take (i := 0) (v := ?_) rfl (by kernel_rfl) (by kernel_rfl) (by kernel_rfl) (fun _ _ _ h => h) (Or.inl ⟨by rfl, ?_⟩) hHeld ?_; rotate_left; (focus (intro w hSw; (try dsimp only at hSw); go_simp; try (with_reducible rfl))); (try simp only [Act.put, List.getElem_toArray, List.getElem_cons_succ, List.getElem_cons_zero, List.setIfInBounds_toArray, List.set_cons_zero, List.set_cons_succ]))
    refine atI 3 ?_
    iterate 2 (refine takeN (v := ?_) rfl (by rfl) ?_ hHeld ?_; rotate_left; (focus (intro w hSw; (try dsimp only at hSw); go_simp; try (with_reducible rfl))); (try simp only [Act.put, Nat.reduceAdd, List.getElem_toArray, List.getElem_cons_succ, List.getElem_cons_zero, List.setIfInBounds_toArray, List.set_cons_zero, List.set_cons_succ]))
    refine atIo ?_
    refine wpAnyH_named ?_
    intro tz htz
    have HBtz : Hid (Below W.heap.size W tz) := Lib.hid (by rw [htz]; exact b_drew (Below.refl _ _))
    clear htz
    refine wpAnyH_ready (rs := [1, 5]) (by kernel_rfl) (by simp) (AllReadyH.cons rfl (fun K hK => ?_) (AllReadyH.cons rfl (fun K hK => ?_) AllReadyH.nil))
    · skip
      go_simp
      refine (ours25_made ⟨qu, ⟨qa, qn, qc⟩, qm, ⟨ra, rn, rc⟩⟩ C _ (readP_below HR.out HBtz.out) HSM.out).mono ?_
      rintro e t1 ⟨o, rfl, ho, hb⟩
      have HO := Lib.hid (madeB_made ho)
      have HBt1 := Lib.hid (b_call HBtz.out hb)
      clear ho hb
      refine hK.out _ _ (HK.out _ HBt1.out) (fun hHeld => ?_)
      clear hK K
      (try simp only [Act.put, List.getElem_toArray, List.getElem_cons_succ, List.getElem_cons_zero, List.setIfInBounds_toArray, List.set_cons_zero, List.set_cons_succ])
      refine wpAnyH_ready (rs := [2, 5]) (by kernel_rfl) (by simp) (AllReadyH.cons rfl (fun K hK => ?_) (AllReadyH.cons rfl (fun K hK => ?_) AllReadyH.nil))
      · skip
        go_simp
        refine (fnew_any o (Below.refl _ _)).mono ?_
        rintro e t2 ⟨s, rfl, hf, hs, hb⟩
        have HPA : Hid (PAt W.heap.size t2 s o C []) := Lib.hid (pat_new HO.out hf HBt1.out.size)
        have HBt2 := Lib.hid (b_call HBt1.out hb)
        clear hf hs hb
        refine hK.out _ _ (HK.out _ HBt2.out) (fun hHeld => ?_)
        clear hK K
        (try simp only [Act.put, List.getElem_toArray, List.getElem_cons_succ, List.getElem_cons_zero, List.setIfInBounds_toArray, List.set_cons_zero, List.set_cons_succ])
        (refine wpAnyH_take (i := 6) (v := ?_) rfl (by kernel_rfl) (by kernel_rfl) (by kernel_rfl) (fun _ _ _ h => h) (Or.inl ⟨by rfl, ?_⟩) hHeld ?_; rotate_left; (focus (intro w hSw; (try dsimp only at hSw); go_simp; try (with_reducible rfl))); (try simp only [Act.put, List.getElem_toArray, List.getElem_cons_succ, List.getElem_cons_zero, List.setIfInBounds_toArray, List.set_cons_zero, List.set_cons_succ]))
        refine wpAnyH_ready (rs := [5]) (by kernel_rfl) (by simp) (AllReadyH.cons rfl (fun K hK => ?_) AllReadyH.nil)
        go_simp
        refine hK.out _ _ (HK.out _ (b_alloc HBt2.out _)) (fun hHeld => ?_)
        clear hK K
        (try simp only [Act.put, List.getElem_toArray, List.getElem_cons_succ, List.getElem_cons_zero, List.setIfInBounds_toArray, List.set_cons_zero, List.set_cons_succ])
        refine wpAnyH_named ?_
        intro t3 ht3
        have hb : Below t2.heap.size t2 t3 := by rw [ht3]; exact b_alloc (Below.refl _ _) _
        have HBt3 := Lib.hid (b_call HBt2.out hb)
        obtain ⟨R, hR⟩ : ∃ R, R = t2.heap.size := ⟨_, rfl⟩
        rw [← hR]
        have HBX : Hid (Blk t3 R [.bool qu, .slice qa qn qc, .int .i64 qm, .slice ra rn rc, .slice none 0 0] ∧ tyB t3 R = some RFS) := Lib.hid (by rw [ht3, hR]; exact ⟨blk_new _ _ _, tyB_new _ _ _⟩)
        have HRL : Hid (W.heap.size ≤ R) := Lib.hid (by rw [hR]; exact HBt2.out.size)
        replace HPA := Lib.hid (pat_below HPA.out hb)
        clear hb ht3 hR
        replace hHeld := HK.out _ HBt3.out
        (refine wpAnyH_take (i := 7) (v := ?_) rfl (by kernel_rfl) (by kernel_rfl) (by kernel_rfl) (fun _ _ _ h => h) (Or.inl ⟨by rfl, ?_⟩) hHeld ?_; rotate_left; (focus (intro w hSw; (try dsimp only at hSw); go_simp; try (with_reducible rfl))); (try simp only [Act.put, List.getElem_toArray, List.getElem_cons_succ, List.getElem_cons_zero, List.setIfInBounds_toArray, List.set_cons_zero, List.set_cons_succ]))
        refine wpAnyH_done (by kernel_rfl) ?_ _
        go_wp2_with fail
        go_meet
        case rel => exact ⟨s, R, o, rfl, rfl, Lib.hid ⟨HPA.out, dat_new HBt3.out HRL.out HBX.out.1 HBX.out.2, by simp, fun m hm => by cases hm⟩⟩
      · skip
        go_simp
        refine hK.out _ _ (HK.out _ (b_alloc HBt1.out _)) (fun hHeld => ?_)
        clear hK K
        (try simp only [Act.put, List.getElem_toArray, List.getElem_cons_succ, List.getElem_cons_zero, List.setIfInBounds_toArray, List.set_cons_zero, List.set_cons_succ])
        refine wpAnyH_named ?_
        intro t4 ht4
        have hb : Below t1.heap.size t1 t4 := by rw [ht4]; exact b_alloc (Below.refl _ _) _
        have HBt4 := Lib.hid (b_call HBt1.out hb)
        obtain ⟨R, hR⟩ : ∃ R, R = t1.heap.size := ⟨_, rfl⟩
        rw [← hR]
        have HBX : Hid (Blk t4 R [.bool qu, .slice qa qn qc, .int .i64 qm, .slice ra rn rc, .slice none 0 0] ∧ tyB t4 R = some RFS) := Lib.hid (by rw [ht4, hR]; exact ⟨blk_new _ _ _, tyB_new _ _ _⟩)
        have HRL : Hid (W.heap.size ≤ R) := Lib.hid (by rw [hR]; exact HBt1.out.size)
        replace HO := Lib.hid (madeP_below HO.out hb)
        clear hb ht4 hR
        replace hHeld := HK.out _ HBt4.out
        refine wpAnyH_ready (rs := [2]) (by kernel_rfl) (by simp) (AllReadyH.cons rfl (fun K hK => ?_) AllReadyH.nil)
        go_simp
        refine (fnew_any o (Below.refl _ _)).mono ?_
        rintro e t5 ⟨s, rfl, hf, hs, hb⟩
        have HPA : Hid (PAt W.heap.size t5 s o C []) := Lib.hid (pat_new HO.out hf HBt4.out.size)
        have HBt5 := Lib.hid (b_call HBt4.out hb)
        replace HBX := Lib.hid (And.intro (blk_below HBX.out.1 hb) (tyB_call HBX.out.2 hb))
        clear hf hs hb
        refine hK.out _ _ (HK.out _ HBt5.out) (fun hHeld => ?_)
        clear hK K
        (try simp only [Act.put, List.getElem_toArray, List.getElem_cons_succ, List.getElem_cons_zero, List.setIfInBounds_toArray, List.set_cons_zero, List.set_cons_succ])
        refine atI 6 ?_
        iterate 2 (refine takeN (v := ?_) rfl (by rfl) ?_ hHeld ?_; rotate_left; (focus (intro w hSw; (try dsimp only at hSw); go_simp; try (with_reducible rfl))); (try simp only [Act.put, Nat.reduceAdd, List.getElem_toArray, List.getElem_cons_succ, List.getElem_cons_zero, List.setIfInBounds_toArray, List.set_cons_zero, List.set_cons_succ]))
        refine atIo ?_
        refine wpAnyH_done (by kernel_rfl) ?_ _
        go_wp2_with fail
        go_meet
        case rel => exact ⟨s, R, o, rfl, rfl, Lib.hid ⟨HPA.out, dat_new HBt5.out HRL.out HBX.out.1 HBX.out.2, by simp, fun m hm => by cases hm⟩⟩
    · skip
      go_simp
      refine hK.out _ _ (HK.out _ (b_alloc HBtz.out _)) (fun hHeld => ?_)
      clear hK K
      (try simp only [Act.put, List.getElem_toArray, List.getElem_cons_succ, List.getElem_cons_zero, List.setIfInBounds_toArray, List.set_cons_zero, List.set_cons_succ])
      refine wpAnyH_named ?_
      intro t6 ht6
      have hb : Below tz.heap.size tz t6 := by rw [ht6]; exact b_alloc (Below.refl _ _) _
      have HBt6 := Lib.hid (b_call HBtz.out hb)
      obtain ⟨R, hR⟩ : ∃ R, R = tz.heap.size := ⟨_, rfl⟩
      rw [← hR]
      have HBX : Hid (Blk t6 R [.bool qu, .slice qa qn qc, .int .i64 qm, .slice ra rn rc, .slice none 0 0] ∧ tyB t6 R = some RFS) := Lib.hid (by rw [ht6, hR]; exact ⟨blk_new _ _ _, tyB_new _ _ _⟩)
      have HRL : Hid (W.heap.size ≤ R) := Lib.hid (by rw [hR]; exact HBtz.out.size)
      clear hb ht6 hR
      replace hHeld := HK.out _ HBt6.out
      refine wpAnyH_ready (rs := [1]) (by kernel_rfl) (by simp) (AllReadyH.cons rfl (fun K hK => ?_) AllReadyH.nil)
      go_simp
      refine (ours25_made ⟨qu, ⟨qa, qn, qc⟩, qm, ⟨ra, rn, rc⟩⟩ C _ (readP_below HR.out HBt6.out) HSM.out).mono ?_
      rintro e t7 ⟨o, rfl, ho, hb⟩
      have HO := Lib.hid (madeB_made ho)
      have HBt7 := Lib.hid (b_call HBt6.out hb)
      replace HBX := Lib.hid (And.intro (blk_below HBX.out.1 hb) (tyB_call HBX.out.2 hb))
      clear ho hb
      refine hK.out _ _ (HK.out _ HBt7.out) (fun hHeld => ?_)
      clear hK K
      (try simp only [Act.put, List.getElem_toArray, List.getElem_cons_succ, List.getElem_cons_zero, List.setIfInBounds_toArray, List.set_cons_zero, List.set_cons_succ])
      refine wpAnyH_ready (rs := [2]) (by kernel_rfl) (by simp) (AllReadyH.cons rfl (fun K hK => ?_) AllReadyH.nil)
      go_simp
      refine (fnew_any o (Below.refl _ _)).mono ?_
      rintro e t8 ⟨s, rfl, hf, hs, hb⟩
      have HPA : Hid (PAt W.heap.size t8 s o C []) := Lib.hid (pat_new HO.out hf HBt7.out.size)
      have HBt8 := Lib.hid (b_call HBt7.out hb)
      replace HBX := Lib.hid (And.intro (blk_below HBX.out.1 hb) (tyB_call HBX.out.2 hb))
      clear hf hs hb
      refine hK.out _ _ (HK.out _ HBt8.out) (fun hHeld => ?_)
      clear hK K
      (try simp only [Act.put, List.getElem_toArray, List.getElem_cons_succ, List.getElem_cons_zero, List.setIfInBounds_toArray, List.set_cons_zero, List.set_cons_succ])
      refine atI 6 ?_
      iterate 2 (refine takeN (v := ?_) rfl (by rfl) ?_ hHeld ?_; rotate_left; (focus (intro w hSw; (try dsimp only at hSw); go_simp; try (with_reducible rfl))); (try simp only [Act.put, Nat.reduceAdd, List.getElem_toArray, List.getElem_cons_succ, List.getElem_cons_zero, List.setIfInBounds_toArray, List.set_cons_zero, List.set_cons_succ]))
      refine atIo ?_
      refine wpAnyH_done (by kernel_rfl) ?_ _
      go_wp2_with fail
      go_meet
      case rel => exact ⟨s, R, o, rfl, rfl, Lib.hid ⟨HPA.out, dat_new HBt8.out HRL.out HBX.out.1 HBX.out.2, by simp, fun m hm => by cases hm⟩⟩
  case rest =>
  obtain ⟨s, r, o, rfl, rfl, HBA⟩ := hcut
  unfold fp rp
  go_wp2_with fail
  go_loopw [34] (fun iv wr => ∃ k9 : Nat, k9 ≤ V.length ∧ iv = .int .i64 k9 ∧ Hid (∃ L, BothAt W ⟨qu, ⟨qa, qn, qc⟩, qm, ⟨ra, rn, rc⟩⟩ C L wr s r o)) (fun iv _ => V.length - (intOf iv).toNat)
  case atStart => exact ⟨0, Nat.zero_le _, rfl, Lib.hid ⟨[], HBA.out⟩⟩
  case round =>
    obtain ⟨W1, hW1⟩ : ∃ x, x = wr := ⟨_, rfl⟩
    subst hW1
    obtain ⟨k9, hk9, rfl, HBL⟩ := hrel
    obtain ⟨L, hbl⟩ := HBL.out
    have HBT := Lib.hid hbl
    have HBW1 : Hid (Below w.heap.size w W1) := Lib.hid (b_call HBW.out (both_be HBT.out))
    clear hbl HBL
    have i0 : (0 : Int) ≤ k9 := by omega
    by_cases hlt : k9 < V.length
    · have i1 : (k9 : Int) < V.length := by omega
      have ic : (k9 : Int) < uc := by omega
      obtain ⟨bl, off, cp, e1, r1, r2, hbl, r4⟩ := readR_pos (readR_below HV.out HBW1.out) (by omega)
      injection e1 with e1 e1b e3
      subst e1
      have d0 : W1.cell? ⟨bl, off + k9 * 7, none⟩ = some (.int .i64 V[k9].kind) := r4 k9 hlt 0 (by decide)
      have d1 : W1.cell? ⟨bl, off + k9 * 7 + 1, none⟩ = some (.int .i64 V[k9].f) := r4 k9 hlt 1 (by decide)
      have d2 : W1.cell? ⟨bl, off + k9 * 7 + 2, none⟩ = some (.int .i64 V[k9].k) := r4 k9 hlt 2 (by decide)
      have d3 : W1.cell? ⟨bl, off + k9 * 7 + 3, none⟩ = some (.int .i64 V[k9].v.k) := r4 k9 hlt 3 (by decide)
      have d4 : W1.cell? ⟨bl, off + k9 * 7 + 4, none⟩ = some (.int .u64 V[k9].v.b) := r4 k9 hlt 4 (by decide)
      have d5 : W1.cell? ⟨bl, off + k9 * 7 + 5, none⟩ = some (.slice V[k9].s.a V[k9].s.n V[k9].s.c) := r4 k9 hlt 5 (by decide)
      have d6 : W1.cell? ⟨bl, off + k9 * 7 + 6, none⟩ = some (.bool V[k9].fit) := r4 k9 hlt 6 (by decide)
      obtain ⟨om, hom⟩ : ∃ om, OpOk w V[k9] om := ⟨_, HVk.out k9 hlt (by omega)⟩
      generalize V[k9] = v at *
      obtain ⟨kd, f, k, ⟨vk, vb⟩, ⟨sa, sn, sc⟩, ft⟩ := v
      obtain ⟨okd, of, ok, ov, oA, oft⟩ := om
      obtain ⟨g0, g1, g2, g3, g4, g5, g6⟩ := hom
      simp only at d0 d1 d2 d3 d4 d5 d6 g0 g1 g2 g3 g4 g5 g6
      subst g0 g1 g2 g3 g4 g5
      have HA := Lib.hid (readR_below g6 HBW.out)
      clear r4 r1 r2 e1b e3 g6
      go_upto_region 10 with fail
      refine wp_named ?_
      intro W2 hW2
      have HX2 : Hid (Blk W2 W1.heap.size [.int .i64 kd, .int .i64 f, .int .i64 k, .int .i64 vk, .int .u64 vb, .slice sa oA.length sc, .bool ft]) := Lib.hid (by rw [hW2]; exact blk_new _ _ _)
      have HB12 : Hid (Below W1.heap.size W1 W2) := Lib.hid (by rw [hW2]; exact b_alloc (Below.refl _ _) _)
      have HBT2 := Lib.hid (both_below HBT.out HB12.out)
      clear hW2 d0 d1 d2 d3 d4 d5 d6 hbl
      by_cases h50 : (k9 : Int) < 50
      · obtain ⟨y0, y1, y2, y3, y4, y5, y6, yf⟩ := blk7z HX2.out
        have yz := HX2.out.1
        have HST := Lib.hid (lstep_any HBT2.out.pa HBT2.out.da (Nat.le_refl _) HR.out HSM.out HBT2.out.iv ⟨kd, f, k, ⟨vk, vb⟩, oA, ft⟩ HA.out)
        unfold aggOp fp rp at HST
        simp only at HST
        go_wp2_with fail
        refine HST.out.mono ?_
        rintro e t9 ⟨rfl, L2, hp2, hd2, hi2⟩
        have HBT9 : Hid (BothAt W ⟨qu, ⟨qa, qn, qc⟩, qm, ⟨ra, rn, rc⟩⟩ C L2 t9 s r o) := Lib.hid ⟨hp2, hd2, hi2⟩
        clear hp2 hd2 hi2 HST y0 y1 y2 y3 y4 y5 y6 yf yz
        go_wp2_with fail
        go_roundw
        case rel => exact ⟨k9 + 1, by omega, by first | rfl | go_num, Lib.hid ⟨L2, HBT9.out⟩⟩
        case measure => simp [intOf]; omega
      · have i2 : (k9 : Int) < 9223372036854775807 := by omega
        go_wp2_with fail
        go_roundw
        case rel => exact ⟨k9 + 1, by omega, by first | rfl | go_num, Lib.hid ⟨L, HBT2.out⟩⟩
        case measure => simp [intOf]; omega
    · have i1 : ¬ ((k9 : Int) < V.length) := by omega
      have HFW : Hid (FacR W1 (.slice a3 F3.length c3) F3) := Lib.hid (facR_below HF3.out (both_be HBT.out))
      have HXL := Lib.hid (refsAll_le HBT.out.iv.n (linv_small HSM.out HBT.out.iv))
      have HML := Lib.hid (mapsAll_le (P := C) (Fx := F3) HBT.out.iv.n (linv_small HSM.out HBT.out.iv))
      have HC1 := Lib.hid (fun w' (hb : Below W1.heap.size W1 w') => both_refs (both_below HBT.out hb) HSM.out)
      have HC2 := Lib.hid (fun w' (hb : Below W1.heap.size W1 w') => both_drefs (both_below HBT.out hb) HR.out HSM.out)
      have HC4 := Lib.hid (fun w' (hb : Below W1.heap.size W1 w') a n c (hf : FacR w' (.slice a n c) F3) => both_maps (both_below HBT.out hb) HSM.out hf HQ3.out)
      have HC5 := Lib.hid (fun w' (hb : Below W1.heap.size W1 w') => both_dmaps (both_below HBT.out hb) HR.out HSM.out (facR_below HFW.out hb))
      obtain ⟨XR, hXR⟩ : ∃ XR, XR = refsAll L := ⟨_, rfl⟩
      obtain ⟨XM, hXM⟩ : ∃ XM, XM = mapsAll C F3 L := ⟨_, rfl⟩
      rw [← hXR] at HXL HC1 HC2
      rw [← hXM] at HML HC4 HC5
      unfold fp at HC1 HC4
      unfold rp at HC2 HC5
      clear hXR hXM
      go_wp2_with fail
      refine (HC1.out _ (Below.refl _ _)).mono ?_
      rintro e w1 ⟨b1, d1, rfl, hr1, hb1⟩
      have HB1 := Lib.hid hb1; have HR1 := Lib.hid hr1
      clear hr1 hb1
      go_wp2_with fail
      refine (HC2.out _ HB1.out).mono ?_
      rintro e w2 ⟨b2, d2, rfl, hr2, hb2⟩
      have HB2 := Lib.hid (b_call HB1.out hb2); have HR2 := Lib.hid hr2
      have HR12 := Lib.hid (readI_below HR1.out hb2)
      clear hr2 hb2
      have HS1 := Lib.hid (rsame_self _ _ XR w2 HR12.out HR2.out HXL.out)
      go_wp2_with fail
      refine HS1.out.mono ?_
      rintro e w3 ⟨rfl, hb3⟩
      have HB3 := Lib.hid (b_call HB2.out hb3)
      clear hb3 HS1
      have HFA := Lib.hid (facts28_any (.slice a3 F3.length c3) F3 w3 (facR_below HFW.out HB3.out) HQ3.out.f HQ3.out.r)
      go_wp2_with fail
      refine HFA.out.mono ?_
      rintro e w4 ⟨b4, d4, rfl, hf4, hb4⟩
      have HB4 := Lib.hid (b_call HB3.out hb4); have HF4 := Lib.hid hf4
      clear hf4 hb4 HFA
      go_wp2_with fail
      refine (HC4.out _ HB4.out _ _ _ HF4.out).mono ?_
      rintro e w5 ⟨b5, d5, rfl, hr5, hb5⟩
      have HB5 := Lib.hid (b_call HB4.out hb5); have HR5 := Lib.hid hr5
      clear hr5 hb5
      go_wp2_with fail
      refine (HC5.out _ HB5.out).mono ?_
      rintro e w6 ⟨b6, d6, rfl, hr6, hb6⟩
      have HB6 := Lib.hid (b_call HB5.out hb6); have HR6 := Lib.hid hr6
      have HR56 := Lib.hid (readI_below HR5.out hb6)
      clear hr6 hb6
      have HS2 := Lib.hid (rsame_self _ _ XM w6 HR56.out HR6.out HML.out)
      go_wp2_with fail
      refine HS2.out.mono ?_
      rintro e w7 ⟨rfl, hb7⟩
      have HB7 := Lib.hid (b_call HB6.out hb7)
      clear hb7 HS2
      go_wp2_with fail
      refine (awake28 _).mono ?_
      rintro e w8 ⟨rfl, hb8⟩
      have HB8 := Lib.hid (b_call HB7.out hb8)
      clear hb8
      go_wp2_with fail
      go_ret
      exact ⟨rfl, b_call HBW1.out HB8.out⟩
end Go.Proofs.Ytdmidnmciaediaa
