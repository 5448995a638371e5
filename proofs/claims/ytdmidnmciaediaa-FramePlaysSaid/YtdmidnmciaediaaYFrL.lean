/- FramePlays, walked: whatever the program and the calls, the answer is true. Conditions: the program and the calls read as lists. -/
import Derived.Test.YtdmidnmciaediaaYFrK9
import Derived.Test.YtdmidnmciaediaaYOpnO
import Derived.Test.YtdmidnmciaediaaYCut
import Derived.Test.YtdmidnmciaediaaYFrm5
namespace Go.Proofs.Ytdmidnmciaediaa
open Go.RowKit
set_option linter.unusedVariables false
set_option linter.unusedSimpArgs false
attribute [local go_sem] over_cell over_frozen
variable {w0 w w' : World} {r s : Nat} {p q : PrV} {P : PrM} {L : List FrM} {v0 : World} {n0 : Nat}
theorem dat_new {W : World} (hb : Below W.heap.size W w) (hr : W.heap.size ≤ r) (hx : Blk w r [.bool q.u, .slice q.g.a q.g.n q.g.c, .int .i64 q.m, .slice q.f.a q.f.n q.f.c, .slice none 0 0]) (ht : tyB w r = some RFS) : DAt W w r q [] :=
  ⟨⟨none, 0, 0⟩, hb, hx, ht, hr, [], readR_nil _, Or.inl rfl, rfl, fun k h => absurd h (Nat.not_lt_zero _)⟩
theorem pat_new {o : PrV} {B : Nat} {b0 : World} (h : MadeP b0 B o P) (hf : FrsAt b0 w s o ⟨none, 0, 0⟩ [] []) (hn : n0 ≤ b0.heap.size) : PAt n0 w s o P [] := ⟨b0, _, _, B, h, hf, hn⟩
/-- Both stand. -/
structure BothAt (W : World) (q : PrV) (C : PrM) (L : List FrM) (w : World) (s r : Nat) (o : PrV) : Prop where
  pa : PAt W.heap.size w s o C L
  da : DAt W w r q L
  iv : LInv C L
theorem both_below {W : World} {C : PrM} {o : PrV} (h : BothAt W q C L w s r o) (hb : Below w.heap.size w w') : BothAt W q C L w' s r o := ⟨pat_below h.pa hb, dat_below h.da hb, h.iv⟩
theorem both_be {W : World} {C : PrM} {o : PrV} (h : BothAt W q C L w s r o) : Below W.heap.size W w := by
  obtain ⟨_, z⟩ := h.da
  exact z.be
set_option maxRecDepth 100000 in
set_option maxHeartbeats 16000000 in
theorem framePlays_any (p : PrV) (P : PrM) (u : Value) (M : List OpM) (w : World) (h : ReadP w p P) (hM : OpsR w u M) : Calls Try.prog 4 #[aggP p, u] w fun e w' => e = .returned (.bool true) ∧ Below w.heap.size w w' := by
  have H := Lib.hid h
  have HM := Lib.hid hM
  obtain ⟨C, hC⟩ : ∃ C, C = cutP P := ⟨_, rfl⟩
  have HC := Lib.hid hC
  have HSM : Hid (SmallP C) := by show SmallP C; rw [hC]; exact small_cut P
  obtain ⟨u0, ⟨ga, gn, gc⟩, m, ⟨fa, fn, fc⟩⟩ := p
  obtain ⟨V, hV, hVl, hVk⟩ := hM
  obtain ⟨ua, uc, rfl, hu2, hu3⟩ := readR_len hV
  have hucap := cap_le hu3
  have HV := Lib.hid hV
  have HVk := Lib.hid hVk
  clear h hC hV hVk hu3
  unfold aggP Sl.v
  simp only
  have HB0 := Lib.hid (b_alloc (Below.refl w.heap.size w) (.cells #[.bool u0, .slice ga gn gc, .int .i64 m, .slice fa fn fc] 25))
  have HX0 := Lib.hid (blk_new w #[.bool u0, .slice ga gn gc, .int .i64 m, .slice fa fn fc] 25)
  go_enter Try.func4, Try.ntmps4
  go_wp2_with fail
  refine (cut_made ⟨u0, ⟨ga, gn, gc⟩, m, ⟨fa, fn, fc⟩⟩ P w _ H.out HB0.out).mono ?_
  rintro e w1 ⟨q, rfl, hcm, hb1⟩
  rw [← HC.out] at hcm
  obtain ⟨qu, ⟨qa, qn, qc⟩, qm, ⟨ra, rn, rc⟩⟩ := q
  have BX1 := blk_below HX0.out hb1
  have HB1 := Lib.hid (b_call HB0.out hb1)
  have HCM := Lib.hid hcm
  have hl1 := BX1.1
  have HX1 := Lib.hid BX1
  obtain ⟨c0, c1, c2, c3, cf⟩ := blk4 BX1
  clear hcm hb1 BX1
  unfold aggP Sl.v
  simp only
  go_upto_region 2 with fail
  refine wp_named ?_
  intro W hW
  have BW : Blk W w.heap.size [.bool qu, .slice qa qn qc, .int .i64 qm, .slice ra rn rc] := by rw [hW]; exact blk_set (blk_set (blk_set (blk_set HX1.out 0 _) 1 _) 2 _) 3 _
  have GW := gb_set (gb_set (gb_set (gb_set (gb_refl w1 (some w.heap.size)) 0 none (.bool qu)) 1 none (.slice qa qn qc)) 2 none (.int .i64 qm)) 3 none (.slice ra rn rc)
  rw [← hW] at GW
  have hBW : Below w.heap.size w W := b_grown HB1.out GW (Nat.le_refl _)
  have RW : ReadP W ⟨qu, ⟨qa, qn, qc⟩, qm, ⟨ra, rn, rc⟩⟩ C := cutMade_read (cutMade_grown HCM.out GW (by simp)) hBW
  have HR := Lib.hid RW
  have HBW := Lib.hid hBW
  have HK : Hid (∀ w', Below W.heap.size W w' → (w'.cell? ⟨w.heap.size, 0, none⟩ = some (.bool qu) ∧ w'.cell? ⟨w.heap.size, 1, none⟩ = some (.slice qa qn qc)) ∧ (w'.cell? ⟨w.heap.size, 2, none⟩ = some (.int .i64 qm) ∧ w'.cell? ⟨w.heap.size, 3, none⟩ = some (.slice ra rn rc))) := Lib.hid (fun w' hb => by
    obtain ⟨y0, y1, y2, y3, _⟩ := blk4 (blk_below BW hb); exact ⟨⟨y0, y1⟩, y2, y3⟩)
  clear hW GW hBW RW c0 c1 c2 c3 cf BW HX1 hl1 HCM HB1
  go_cut [5, 6] (fun sv rv wx => ∃ (s r : Nat) (o : PrV), sv = fp s ∧ rv = rp r ∧ Hid (BothAt W ⟨qu, ⟨qa, qn, qc⟩, qm, ⟨ra, rn, rc⟩⟩ C [] wx s r o))
  case first =>
    refine wp_region_held_drew (S := fun w' => (w'.cell? ⟨w.heap.size, 0, none⟩ = some (.bool qu) ∧ w'.cell? ⟨w.heap.size, 1, none⟩ = some (.slice qa qn qc)) ∧ (w'.cell? ⟨w.heap.size, 2, none⟩ = some (.int .i64 qm) ∧ w'.cell? ⟨w.heap.size, 3, none⟩ = some (.slice ra rn rc))) (by kernel_rfl) (HK.out _ (b_drew (Below.refl _ _))) (fun hHeld => ?_)
    (refine wpAnyH_take (i := 0) (v := ?_) rfl (by kernel_rfl) (by kernel_rfl) (by kernel_rfl) (fun _ _ _ h => h) (Or.inl ⟨by rfl, ?_⟩) hHeld ?_; rotate_left; (focus (intro w hSw; (try dsimp only at hSw); go_simp; try (with_reducible rfl))); (try simp only [Act.put, List.getElem_toArray, List.getElem_cons_succ, List.getElem_cons_zero, List.setIfInBounds_toArray, List.set_cons_zero, List.set_cons_succ]))
    refine atI 3 ?_
    iterate 2 (refine takeN (v := ?_) rfl (by rfl) ?_ hHeld ?_; rotate_left; (focus (intro w hSw; (try dsimp only at hSw); go_simp; try (with_reducible rfl))); (try simp only [Act.put, Nat.reduceAdd, List.getElem_toArray, List.getElem_cons_succ, List.getElem_cons_zero, List.setIfInBounds_toArray, List.set_cons_zero, List.set_cons_succ]))
    refine atIo ?_
    refine wpAnyH_named ?_
    intro tz htz
    have HBtz : Hid (Below W.heap.size W tz) := Lib.hid (by rw [htz]; exact b_drew (Below.refl _ _))
    clear htz
    refine wpAnyH_ready (rs := [1, 5]) (by kernel_rfl) (by simp) (AllReadyH.cons rfl (fun K hK => ?_) (AllReadyH.cons rfl (fun K hK => ?_) AllReadyH.nil))
    · skip
      go_simp
      refine (ours25_made ⟨qu, ⟨qa, qn, qc⟩, qm, ⟨ra, rn, rc⟩⟩ C _ (readP_below HR.out HBtz.out) HSM.out).mono ?_
      rintro e t1 ⟨o, rfl, ho, hb⟩
      have HO := Lib.hid (madeB_made ho)
      have HBt1 := Lib.hid (b_call HBtz.out hb)
      clear ho hb
      refine hK.out _ _ (HK.out _ HBt1.out) (fun hHeld => ?_)
      clear hK K
      (try simp only [Act.put, List.getElem_toArray, List.getElem_cons_succ, List.getElem_cons_zero, List.setIfInBounds_toArray, List.set_cons_zero, List.set_cons_succ])
      refine wpAnyH_ready (rs := [2, 5]) (by kernel_rfl) (by simp) (AllReadyH.cons rfl (fun K hK => ?_) (AllReadyH.cons rfl (fun K hK => ?_) AllReadyH.nil))
      · skip
        go_simp
        refine (fnew_any o (Below.refl _ _)).mono ?_
        rintro e t2 ⟨s, rfl, hf, hs, hb⟩
        have HPA : Hid (PAt W.heap.size t2 s o C []) := Lib.hid (pat_new HO.out hf HBt1.out.size)
        have HBt2 := Lib.hid (b_call HBt1.out hb)
        clear hf hs hb
        refine hK.out _ _ (HK.out _ HBt2.out) (fun hHeld => ?_)
        clear hK K
        (try simp only [Act.put, List.getElem_toArray, List.getElem_cons_succ, List.getElem_cons_zero, List.setIfInBounds_toArray, List.set_cons_zero, List.set_cons_succ])
        (refine wpAnyH_take (i := 6) (v := ?_) rfl (by kernel_rfl) (by kernel_rfl) (by kernel_rfl) (fun _ _ _ h => h) (Or.inl ⟨by rfl, ?_⟩) hHeld ?_; rotate_left; (focus (intro w hSw; (try dsimp only at hSw); go_simp; try (with_reducible rfl))); (try simp only [Act.put, List.getElem_toArray, List.getElem_cons_succ, List.getElem_cons_zero, List.setIfInBounds_toArray, List.set_cons_zero, List.set_cons_succ]))
        refine wpAnyH_ready (rs := [5]) (by kernel_rfl) (by simp) (AllReadyH.cons rfl (fun K hK => ?_) AllReadyH.nil)
        go_simp
        refine hK.out _ _ (HK.out _ (b_alloc HBt2.out _)) (fun hHeld => ?_)
        clear hK K
        (try simp only [Act.put, List.getElem_toArray, List.getElem_cons_succ, List.getElem_cons_zero, List.setIfInBounds_toArray, List.set_cons_zero, List.set_cons_succ])
        refine wpAnyH_named ?_
        intro t3 ht3
        have hb : Below t2.heap.size t2 t3 := by rw [ht3]; exact b_alloc (Below.refl _ _) _
        have HBt3 := Lib.hid (b_call HBt2.out hb)
        obtain ⟨R, hR⟩ : ∃ R, R = t2.heap.size := ⟨_, rfl⟩
        rw [← hR]
        have HBX : Hid (Blk t3 R [.bool qu, .slice qa qn qc, .int .i64 qm, .slice ra rn rc, .slice none 0 0] ∧ tyB t3 R = some RFS) := Lib.hid (by rw [ht3, hR]; exact ⟨blk_new _ _ _, tyB_new _ _ _⟩)
        have HRL : Hid (W.heap.size ≤ R) := Lib.hid (by rw [hR]; exact HBt2.out.size)
        replace HPA := Lib.hid (pat_below HPA.out hb)
        clear hb ht3 hR
        replace hHeld := HK.out _ HBt3.out
        (refine wpAnyH_take (i := 7) (v := ?_) rfl (by kernel_rfl) (by kernel_rfl) (by kernel_rfl) (fun _ _ _ h => h) (Or.inl ⟨by rfl, ?_⟩) hHeld ?_; rotate_left; (focus (intro w hSw; (try dsimp only at hSw); go_simp; try (with_reducible rfl))); (try simp only [Act.put, List.getElem_toArray, List.getElem_cons_succ, List.getElem_cons_zero, List.setIfInBounds_toArray, List.set_cons_zero, List.set_cons_succ]))
        refine wpAnyH_done (by kernel_rfl) ?_ _
        go_wp2_with fail
        go_meet
        case rel => exact ⟨s, R, o, rfl, rfl, Lib.hid ⟨HPA.out, dat_new HBt3.out HRL.out HBX.out.1 HBX.out.2, by simp, fun m hm => by cases hm⟩⟩
      · skip
        go_simp
        refine hK.out _ _ (HK.out _ (b_alloc HBt1.out _)) (fun hHeld => ?_)
        clear hK K
        (try simp only [Act.put, List.getElem_toArray, List.getElem_cons_succ, List.getElem_cons_zero, List.setIfInBounds_toArray, List.set_cons_zero, List.set_cons_succ])
        refine wpAnyH_named ?_
        intro t4 ht4
        have hb : Below t1.heap.size t1 t4 := by rw [ht4]; exact b_alloc (Below.refl _ _) _
        have HBt4 := Lib.hid (b_call HBt1.out hb)
        obtain ⟨R, hR⟩ : ∃ R, R = t1.heap.size := ⟨_, rfl⟩
        rw [← hR]
        have HBX : Hid (Blk t4 R [.bool qu, .slice qa qn qc, .int .i64 qm, .slice ra rn rc, .slice none 0 0] ∧ tyB t4 R = some RFS) := Lib.hid (by rw [ht4, hR]; exact ⟨blk_new _ _ _, tyB_new _ _ _⟩)
        have HRL : Hid (W.heap.size ≤ R) := Lib.hid (by rw [hR]; exact HBt1.out.size)
        replace HO := Lib.hid (madeP_below HO.out hb)
        clear hb ht4 hR
        replace hHeld := HK.out _ HBt4.out
        refine wpAnyH_ready (rs := [2]) (by kernel_rfl) (by simp) (AllReadyH.cons rfl (fun K hK => ?_) AllReadyH.nil)
        go_simp
        refine (fnew_any o (Below.refl _ _)).mono ?_
        rintro e t5 ⟨s, rfl, hf, hs, hb⟩
        have HPA : Hid (PAt W.heap.size t5 s o C []) := Lib.hid (pat_new HO.out hf HBt4.out.size)
        have HBt5 := Lib.hid (b_call HBt4.out hb)
        replace HBX := Lib.hid (And.intro (blk_below HBX.out.1 hb) (tyB_call HBX.out.2 hb))
        clear hf hs hb
        refine hK.out _ _ (HK.out _ HBt5.out) (fun hHeld => ?_)
        clear hK K
        (try simp only [Act.put, List.getElem_toArray, List.getElem_cons_succ, List.getElem_cons_zero, List.setIfInBounds_toArray, List.set_cons_zero, List.set_cons_succ])
        refine atI 6 ?_
        iterate 2 (refine takeN (v := ?_) rfl (by rfl) ?_ hHeld ?_; rotate_left; (focus (intro w hSw; (try dsimp only at hSw); go_simp; try (with_reducible rfl))); (try simp only [Act.put, Nat.reduceAdd, List.getElem_toArray, List.getElem_cons_succ, List.getElem_cons_zero, List.setIfInBounds_toArray, List.set_cons_zero, List.set_cons_succ]))
        refine atIo ?_
        refine wpAnyH_done (by kernel_rfl) ?_ _
        go_wp2_with fail
        go_meet
        case rel => exact ⟨s, R, o, rfl, rfl, Lib.hid ⟨HPA.out, dat_new HBt5.out HRL.out HBX.out.1 HBX.out.2, by simp, fun m hm => by cases hm⟩⟩
    · skip
      go_simp
      refine hK.out _ _ (HK.out _ (b_alloc HBtz.out _)) (fun hHeld => ?_)
      clear hK K
      (try simp only [Act.put, List.getElem_toArray, List.getElem_cons_succ, List.getElem_cons_zero, List.setIfInBounds_toArray, List.set_cons_zero, List.set_cons_succ])
      refine wpAnyH_named ?_
      intro t6 ht6
      have hb : Below tz.heap.size tz t6 := by rw [ht6]; exact b_alloc (Below.refl _ _) _
      have HBt6 := Lib.hid (b_call HBtz.out hb)
      obtain ⟨R, hR⟩ : ∃ R, R = tz.heap.size := ⟨_, rfl⟩
      rw [← hR]
      have HBX : Hid (Blk t6 R [.bool qu, .slice qa qn qc, .int .i64 qm, .slice ra rn rc, .slice none 0 0] ∧ tyB t6 R = some RFS) := Lib.hid (by rw [ht6, hR]; exact ⟨blk_new _ _ _, tyB_new _ _ _⟩)
      have HRL : Hid (W.heap.size ≤ R) := Lib.hid (by rw [hR]; exact HBtz.out.size)
      clear hb ht6 hR
      replace hHeld := HK.out _ HBt6.out
      refine wpAnyH_ready (rs := [1]) (by kernel_rfl) (by simp) (AllReadyH.cons rfl (fun K hK => ?_) AllReadyH.nil)
      go_simp
      refine (ours25_made ⟨qu, ⟨qa, qn, qc⟩, qm, ⟨ra, rn, rc⟩⟩ C _ (readP_below HR.out HBt6.out) HSM.out).mono ?_
      rintro e t7 ⟨o, rfl, ho, hb⟩
      have HO := Lib.hid (madeB_made ho)
      have HBt7 := Lib.hid (b_call HBt6.out hb)
      replace HBX := Lib.hid (And.intro (blk_below HBX.out.1 hb) (tyB_call HBX.out.2 hb))
      clear ho hb
      refine hK.out _ _ (HK.out _ HBt7.out) (fun hHeld => ?_)
      clear hK K
      (try simp only [Act.put, List.getElem_toArray, List.getElem_cons_succ, List.getElem_cons_zero, List.setIfInBounds_toArray, List.set_cons_zero, List.set_cons_succ])
      refine wpAnyH_ready (rs := [2]) (by kernel_rfl) (by simp) (AllReadyH.cons rfl (fun K hK => ?_) AllReadyH.nil)
      go_simp
      refine (fnew_any o (Below.refl _ _)).mono ?_
      rintro e t8 ⟨s, rfl, hf, hs, hb⟩
      have HPA : Hid (PAt W.heap.size t8 s o C []) := Lib.hid (pat_new HO.out hf HBt7.out.size)
      have HBt8 := Lib.hid (b_call HBt7.out hb)
      replace HBX := Lib.hid (And.intro (blk_below HBX.out.1 hb) (tyB_call HBX.out.2 hb))
      clear hf hs hb
      refine hK.out _ _ (HK.out _ HBt8.out) (fun hHeld => ?_)
      clear hK K
      (try simp only [Act.put, List.getElem_toArray, List.getElem_cons_succ, List.getElem_cons_zero, List.setIfInBounds_toArray, List.set_cons_zero, List.set_cons_succ])
      refine atI 6 ?_
      iterate 2 (refine takeN (v := ?_) rfl (by rfl) ?_ hHeld ?_; rotate_left; (focus (intro w hSw; (try dsimp only at hSw); go_simp; try (with_reducible rfl))); (try simp only [Act.put, Nat.reduceAdd, List.getElem_toArray, List.getElem_cons_succ, List.getElem_cons_zero, List.setIfInBounds_toArray, List.set_cons_zero, List.set_cons_succ]))
      refine atIo ?_
      refine wpAnyH_done (by kernel_rfl) ?_ _
      go_wp2_with fail
      go_meet
      case rel => exact ⟨s, R, o, rfl, rfl, Lib.hid ⟨HPA.out, dat_new HBt8.out HRL.out HBX.out.1 HBX.out.2, by simp, fun m hm => by cases hm⟩⟩
  case rest =>
  obtain ⟨s, r, o, rfl, rfl, HBA⟩ := hcut
  unfold fp rp
  go_wp2_with fail
  go_loopw [23] (fun iv wr => ∃ k9 : Nat, k9 ≤ V.length ∧ iv = .int .i64 k9 ∧ Hid (∃ L, BothAt W ⟨qu, ⟨qa, qn, qc⟩, qm, ⟨ra, rn, rc⟩⟩ C L wr s r o)) (fun iv _ => V.length - (intOf iv).toNat)
  case atStart => exact ⟨0, Nat.zero_le _, rfl, Lib.hid ⟨[], HBA.out⟩⟩
  case round =>
    obtain ⟨W1, hW1⟩ : ∃ x, x = wr := ⟨_, rfl⟩
    subst hW1
    obtain ⟨k9, hk9, rfl, HBL⟩ := hrel
    obtain ⟨L, hbl⟩ := HBL.out
    have HBT := Lib.hid hbl
    have HBW1 : Hid (Below w.heap.size w W1) := Lib.hid (b_call HBW.out (both_be HBT.out))
    clear hbl HBL
    have i0 : (0 : Int) ≤ k9 := by omega
    by_cases hlt : k9 < V.length
    · have i1 : (k9 : Int) < V.length := by omega
      have ic : (k9 : Int) < uc := by omega
      obtain ⟨bl, off, cp, e1, r1, r2, hbl, r4⟩ := readR_pos (readR_below HV.out HBW1.out) (by omega)
      injection e1 with e1 e1b e3
      subst e1
      have d0 : W1.cell? ⟨bl, off + k9 * 7, none⟩ = some (.int .i64 V[k9].kind) := r4 k9 hlt 0 (by decide)
      have d1 : W1.cell? ⟨bl, off + k9 * 7 + 1, none⟩ = some (.int .i64 V[k9].f) := r4 k9 hlt 1 (by decide)
      have d2 : W1.cell? ⟨bl, off + k9 * 7 + 2, none⟩ = some (.int .i64 V[k9].k) := r4 k9 hlt 2 (by decide)
      have d3 : W1.cell? ⟨bl, off + k9 * 7 + 3, none⟩ = some (.int .i64 V[k9].v.k) := r4 k9 hlt 3 (by decide)
      have d4 : W1.cell? ⟨bl, off + k9 * 7 + 4, none⟩ = some (.int .u64 V[k9].v.b) := r4 k9 hlt 4 (by decide)
      have d5 : W1.cell? ⟨bl, off + k9 * 7 + 5, none⟩ = some (.slice V[k9].s.a V[k9].s.n V[k9].s.c) := r4 k9 hlt 5 (by decide)
      have d6 : W1.cell? ⟨bl, off + k9 * 7 + 6, none⟩ = some (.bool V[k9].fit) := r4 k9 hlt 6 (by decide)
      obtain ⟨om, hom⟩ : ∃ om, OpOk w V[k9] om := ⟨_, HVk.out k9 hlt (by omega)⟩
      generalize V[k9] = v at *
      obtain ⟨kd, f, k, ⟨vk, vb⟩, ⟨sa, sn, sc⟩, ft⟩ := v
      obtain ⟨okd, of, ok, ov, oA, oft⟩ := om
      obtain ⟨g0, g1, g2, g3, g4, g5, g6⟩ := hom
      simp only at d0 d1 d2 d3 d4 d5 d6 g0 g1 g2 g3 g4 g5 g6
      subst g0 g1 g2 g3 g4 g5
      have HA := Lib.hid (readR_below g6 HBW.out)
      clear r4 r1 r2 e1b e3 g6
      go_upto_region 6 with fail
      refine wp_named ?_
      intro W2 hW2
      have HX2 : Hid (Blk W2 W1.heap.size [.int .i64 kd, .int .i64 f, .int .i64 k, .int .i64 vk, .int .u64 vb, .slice sa oA.length sc, .bool ft]) := Lib.hid (by rw [hW2]; exact blk_new _ _ _)
      have HB12 : Hid (Below W1.heap.size W1 W2) := Lib.hid (by rw [hW2]; exact b_alloc (Below.refl _ _) _)
      have HBT2 := Lib.hid (both_below HBT.out HB12.out)
      clear hW2 d0 d1 d2 d3 d4 d5 d6 hbl
      by_cases h50 : (k9 : Int) ≥ 50
      · skip
        obtain ⟨lv, hdoc⟩ := HBT2.out.da
        obtain ⟨n1, n2, n3⟩ := doc_len hdoc
        have b4 := hdoc.hd.2.1 4 (by simp)
        simp only [List.getElem_cons_succ, List.getElem_cons_zero] at b4
        rw [n1] at b4
        have bz := hdoc.hd.1
        obtain ⟨b0, lw, ds, B9, hm9, hf9, hn9⟩ := HBT2.out.pa
        have HF9 := Lib.hid (fframe_none hf9 L.length (Int.le_refl _) HBT2.out.iv.n)
        clear hdoc hm9 hf9 hn9 n1 n2 n3
        go_wp2_with fail
        refine HF9.out.mono ?_
        rintro e w5 ⟨rfl, hb5⟩
        have HB5 := Lib.hid (b_call (b_call HBW1.out HB12.out) hb5)
        clear hb5 b4 bz HF9
        go_wp2_with fail
        refine (awake28 _).mono ?_
        rintro e w6 ⟨rfl, hb6⟩
        have HB6 := Lib.hid (b_call (b_alloc HB5.out _) hb6)
        clear hb6
        go_wp2_with fail
        go_ret
        exact ⟨rfl, HB6.out⟩
      · obtain ⟨y0, y1, y2, y3, y4, y5, y6, yf⟩ := blk7z HX2.out
        have yz := HX2.out.1
        go_upto_region 7 with fail
        go_cut [44] (fun v wx => v = .bool false ∧ Hid (∃ L2, BothAt W ⟨qu, ⟨qa, qn, qc⟩, qm, ⟨ra, rn, rc⟩⟩ C L2 wx s r o))
        case first =>
          refine wp_region_F (S := fun w' => ((w'.cell? ⟨W1.heap.size, 0, none⟩ = some (.int .i64 kd) ∧ w'.cell? ⟨W1.heap.size, 1, none⟩ = some (.int .i64 f)) ∧ (w'.cell? ⟨W1.heap.size, 2, none⟩ = some (.int .i64 k) ∧ w'.cell? ⟨W1.heap.size, 3, none⟩ = some (.int .i64 vk))) ∧ ((w'.cell? ⟨W1.heap.size, 4, none⟩ = some (.int .u64 vb) ∧ w'.cell? ⟨W1.heap.size, 5, none⟩ = some (.slice sa oA.length sc)) ∧ w'.cell? ⟨W1.heap.size, 6, none⟩ = some (.bool ft))) [3, 7, 11] (by kernel_rfl) ⟨⟨⟨y0, y1⟩, y2, y3⟩, ⟨y4, y5⟩, y6⟩ (fun hHeld => ?_)
          (refine wpAnyF_takeP (i := 0) (v := ?_) rfl (by kernel_rfl) (by kernel_rfl) (by kernel_rfl) (fun _ _ _ h => h) (Or.inl ⟨by rfl, ?_⟩) ?_; rotate_left; (focus (intro w hSw; (try dsimp only at hSw); go_simp; try (with_reducible rfl))); (try simp only [Act.put, List.getElem_toArray, List.getElem_cons_succ, List.getElem_cons_zero, List.setIfInBounds_toArray, List.set_cons_zero, List.set_cons_succ]))
          (refine wpAnyF_takeP (i := 1) (v := ?_) rfl (by kernel_rfl) (by kernel_rfl) (by kernel_rfl) (fun _ _ _ h => h) (Or.inl ⟨by rfl, ?_⟩) ?_; rotate_left; (focus (intro w hSw; (try dsimp only at hSw); go_simp; try (with_reducible rfl))); (try simp only [Act.put, List.getElem_toArray, List.getElem_cons_succ, List.getElem_cons_zero, List.setIfInBounds_toArray, List.set_cons_zero, List.set_cons_succ]))
          (refine wpAnyF_take (n := 40) (i := 2) (v := ?_) rfl (by kernel_rfl) (by kernel_rfl) (by kernel_rfl) (by kernel_rfl) (by kernel_rfl) (fun _ _ _ h => h) (Or.inl ⟨by rfl, ?_⟩) hHeld ?_; rotate_left; (focus (intro w hSw; (try dsimp only at hSw); go_simp; try (with_reducible rfl))); (try simp only [Act.put, List.getElem_toArray, List.getElem_cons_succ, List.getElem_cons_zero, List.setIfInBounds_toArray, List.set_cons_zero, List.set_cons_succ]))
          clear hHeld y0 y1 y2 y3 y4 y5 y6 yf yz
          refine wpAnyF_ready (rs := [3]) (by kernel_rfl) (by simp) (AllReadyF.free rfl (by decide) (fun K hK => ?_) AllReadyF.nil)
          go_simp
          refine (lstep_any (pat_below HBT2.out.pa (b_drew (Below.refl _ _))) (dat_below HBT2.out.da (b_drew (Below.refl _ _))) (Nat.le_refl _) HR.out HSM.out HBT2.out.iv ⟨kd, f, k, ⟨vk, vb⟩, oA, ft⟩ HA.out).mono ?_
          rintro e t9 ⟨rfl, L2, hp2, hd2, hi2⟩
          have HBT9 : Hid (BothAt W ⟨qu, ⟨qa, qn, qc⟩, qm, ⟨ra, rn, rc⟩⟩ C L2 t9 s r o) := Lib.hid ⟨hp2, hd2, hi2⟩
          clear hp2 hd2 hi2
          refine hK.out _ _ (trivial) (fun hHeld => ?_)
          clear hK K
          (try simp only [Act.put, List.getElem_toArray, List.getElem_cons_succ, List.getElem_cons_zero, List.setIfInBounds_toArray, List.set_cons_zero, List.set_cons_succ])
          (refine wpAnyF_takeP (i := 4) (v := ?_) rfl (by kernel_rfl) (by kernel_rfl) (by kernel_rfl) (fun _ _ _ h => h) (Or.inl ⟨by rfl, ?_⟩) ?_; rotate_left; (focus (intro w hSw; (try dsimp only at hSw); go_simp; try (with_reducible rfl))); (try simp only [Act.put, List.getElem_toArray, List.getElem_cons_succ, List.getElem_cons_zero, List.setIfInBounds_toArray, List.set_cons_zero, List.set_cons_succ]))
          (refine wpAnyF_takeP (i := 5) (v := ?_) rfl (by kernel_rfl) (by kernel_rfl) (by kernel_rfl) (fun _ _ _ h => h) (Or.inl ⟨by rfl, ?_⟩) ?_; rotate_left; (focus (intro w hSw; (try dsimp only at hSw); go_simp; try (with_reducible rfl))); (try simp only [Act.put, List.getElem_toArray, List.getElem_cons_succ, List.getElem_cons_zero, List.setIfInBounds_toArray, List.set_cons_zero, List.set_cons_succ]))
          (refine wpAnyF_takeP (i := 6) (v := ?_) rfl (by kernel_rfl) (by kernel_rfl) (by kernel_rfl) (fun _ _ _ h => h) (Or.inl ⟨by rfl, ?_⟩) ?_; rotate_left; (focus (intro w hSw; (try dsimp only at hSw); go_simp; try (with_reducible rfl))); (try simp only [Act.put, List.getElem_toArray, List.getElem_cons_succ, List.getElem_cons_zero, List.setIfInBounds_toArray, List.set_cons_zero, List.set_cons_succ]))
          (refine wpAnyF_takeP (i := 8) (v := ?_) rfl (by kernel_rfl) (by kernel_rfl) (by kernel_rfl) (fun _ _ _ h => h) (Or.inl ⟨by rfl, ?_⟩) ?_; rotate_left; (focus (intro w hSw; (try dsimp only at hSw); go_simp; try (with_reducible rfl))); (try simp only [Act.put, List.getElem_toArray, List.getElem_cons_succ, List.getElem_cons_zero, List.setIfInBounds_toArray, List.set_cons_zero, List.set_cons_succ]))
          (refine wpAnyF_takeP (i := 9) (v := ?_) rfl (by kernel_rfl) (by kernel_rfl) (by kernel_rfl) (fun _ _ _ h => h) (Or.inl ⟨by rfl, ?_⟩) ?_; rotate_left; (focus (intro w hSw; (try dsimp only at hSw); go_simp; try (with_reducible rfl))); (try simp only [Act.put, List.getElem_toArray, List.getElem_cons_succ, List.getElem_cons_zero, List.setIfInBounds_toArray, List.set_cons_zero, List.set_cons_succ]))
          (refine wpAnyF_takeP (i := 10) (v := ?_) rfl (by kernel_rfl) (by kernel_rfl) (by kernel_rfl) (fun _ _ _ h => h) (Or.inl ⟨by rfl, ?_⟩) ?_; rotate_left; (focus (intro w hSw; (try dsimp only at hSw); go_simp; try (with_reducible rfl))); (try simp only [Act.put, List.getElem_toArray, List.getElem_cons_succ, List.getElem_cons_zero, List.setIfInBounds_toArray, List.set_cons_zero, List.set_cons_succ]))
          obtain ⟨⟨la, ln, lc⟩, hdoc⟩ := HBT9.out.da
          obtain ⟨n1, n2, n3⟩ := doc_len hdoc
          simp only at n1 n2 n3
          subst n1
          have HD := Lib.hid hdoc
          have bz := hdoc.hd.1
          have hn24 := HBT9.out.iv.n
          have hee : ((L2.length : Int) != L2.length) = false := by simp
          have b4 : t9.cell? ⟨r, 4, none⟩ = some (.slice la L2.length lc) := by
            have b4 := hdoc.hd.2.1 4 (by simp)
            simpa only [List.getElem_cons_succ, List.getElem_cons_zero] using b4
          obtain ⟨b0, lw, ds, B9, hm9, hf9, hn9⟩ := HBT9.out.pa
          have HF9 := Lib.hid hf9
          clear hdoc hm9 hf9 hn9
          refine wpAnyF_ready (rs := [7, 11]) (by kernel_rfl) (by simp) (AllReadyF.free rfl (by decide) (fun K hK => ?_) (AllReadyF.free rfl (by decide) (fun K hK => ?_) AllReadyF.nil))
          · skip
            go_simp
            refine (flen_any HF9.out).mono ?_
            rintro e t10 ⟨rfl, rfl⟩
            refine hK.out _ _ (trivial) (fun hHeld => ?_)
            clear hK K
            (try simp only [Act.put, List.getElem_toArray, List.getElem_cons_succ, List.getElem_cons_zero, List.setIfInBounds_toArray, List.set_cons_zero, List.set_cons_succ])
            refine wpAnyF_ready (rs := [11]) (by kernel_rfl) (by simp) (AllReadyF.free rfl (by decide) (fun K hK => ?_) AllReadyF.nil)
            go_simp
            refine hK.out _ _ (trivial) (fun hHeld => ?_)
            clear hK K
            (try simp only [Act.put, List.getElem_toArray, List.getElem_cons_succ, List.getElem_cons_zero, List.setIfInBounds_toArray, List.set_cons_zero, List.set_cons_succ])
            (refine wpAnyF_takeP (i := 12) (v := ?_) rfl (by kernel_rfl) (by kernel_rfl) (by kernel_rfl) (fun _ _ _ h => h) (Or.inl ⟨by rfl, ?_⟩) ?_; rotate_left; (focus (intro w hSw; (try dsimp only at hSw); go_simp; try (with_reducible rfl))); (try simp only [Act.put, List.getElem_toArray, List.getElem_cons_succ, List.getElem_cons_zero, List.setIfInBounds_toArray, List.set_cons_zero, List.set_cons_succ]))
            (refine wpAnyF_takeP (i := 13) (v := ?_) rfl (by kernel_rfl) (by kernel_rfl) (by kernel_rfl) (fun _ _ _ h => h) (Or.inl ⟨by rfl, ?_⟩) ?_; rotate_left; (focus (intro w hSw; (try dsimp only at hSw); go_simp; try (with_reducible rfl))); (try simp only [Act.put, List.getElem_toArray, List.getElem_cons_succ, List.getElem_cons_zero, List.setIfInBounds_toArray, List.set_cons_zero, List.set_cons_succ]))
            (refine wpAnyF_takeP (i := 14) (v := ?_) rfl (by kernel_rfl) (by kernel_rfl) (by kernel_rfl) (fun _ _ _ h => h) (Or.inl ⟨by rfl, ?_⟩) ?_; rotate_left; (focus (intro w hSw; (try dsimp only at hSw); go_simp; try (with_reducible rfl))); (try simp only [Act.put, List.getElem_toArray, List.getElem_cons_succ, List.getElem_cons_zero, List.setIfInBounds_toArray, List.set_cons_zero, List.set_cons_succ]))
            refine wpAnyF_done (by kernel_rfl) ?_
            go_wp2_with fail
            go_meet
            case rel => exact ⟨rfl, Lib.hid ⟨L2, HBT9.out⟩⟩
          · skip
            go_simp
            refine hK.out _ _ (trivial) (fun hHeld => ?_)
            clear hK K
            (try simp only [Act.put, List.getElem_toArray, List.getElem_cons_succ, List.getElem_cons_zero, List.setIfInBounds_toArray, List.set_cons_zero, List.set_cons_succ])
            (refine wpAnyF_takeP (i := 12) (v := ?_) rfl (by kernel_rfl) (by kernel_rfl) (by kernel_rfl) (fun _ _ _ h => h) (Or.inl ⟨by rfl, ?_⟩) ?_; rotate_left; (focus (intro w hSw; (try dsimp only at hSw); go_simp; try (with_reducible rfl))); (try simp only [Act.put, List.getElem_toArray, List.getElem_cons_succ, List.getElem_cons_zero, List.setIfInBounds_toArray, List.set_cons_zero, List.set_cons_succ]))
            refine wpAnyF_ready (rs := [7]) (by kernel_rfl) (by simp) (AllReadyF.free rfl (by decide) (fun K hK => ?_) AllReadyF.nil)
            go_simp
            refine (flen_any HF9.out).mono ?_
            rintro e t10 ⟨rfl, rfl⟩
            refine hK.out _ _ (trivial) (fun hHeld => ?_)
            clear hK K
            (try simp only [Act.put, List.getElem_toArray, List.getElem_cons_succ, List.getElem_cons_zero, List.setIfInBounds_toArray, List.set_cons_zero, List.set_cons_succ])
            (refine wpAnyF_takeP (i := 13) (v := ?_) rfl (by kernel_rfl) (by kernel_rfl) (by kernel_rfl) (fun _ _ _ h => h) (Or.inl ⟨by rfl, ?_⟩) ?_; rotate_left; (focus (intro w hSw; (try dsimp only at hSw); go_simp; try (with_reducible rfl))); (try simp only [Act.put, List.getElem_toArray, List.getElem_cons_succ, List.getElem_cons_zero, List.setIfInBounds_toArray, List.set_cons_zero, List.set_cons_succ]))
            (refine wpAnyF_takeP (i := 14) (v := ?_) rfl (by kernel_rfl) (by kernel_rfl) (by kernel_rfl) (fun _ _ _ h => h) (Or.inl ⟨by rfl, ?_⟩) ?_; rotate_left; (focus (intro w hSw; (try dsimp only at hSw); go_simp; try (with_reducible rfl))); (try simp only [Act.put, List.getElem_toArray, List.getElem_cons_succ, List.getElem_cons_zero, List.setIfInBounds_toArray, List.set_cons_zero, List.set_cons_succ]))
            refine wpAnyF_done (by kernel_rfl) ?_
            go_wp2_with fail
            go_meet
            case rel => exact ⟨rfl, Lib.hid ⟨L2, HBT9.out⟩⟩
        case rest =>
        obtain ⟨rfl, hcut⟩ := hcut
        obtain ⟨t9, ht9⟩ : ∃ x, x = wc := ⟨_, rfl⟩
        subst ht9
        obtain ⟨L2, hbt9⟩ := hcut.out
        have HBT9 := Lib.hid hbt9
        clear hbt9 hcut
        obtain ⟨⟨la, ln, lc⟩, hdoc⟩ := HBT9.out.da
        obtain ⟨n1, n2, n3⟩ := doc_len hdoc
        simp only at n1 n2 n3
        subst n1
        have HD := Lib.hid hdoc
        have bz := hdoc.hd.1
        have hn24 := HBT9.out.iv.n
        have hee : ((L2.length : Int) != L2.length) = false := by simp
        have b4 : t9.cell? ⟨r, 4, none⟩ = some (.slice la L2.length lc) := by
          have b4 := hdoc.hd.2.1 4 (by simp)
          simpa only [List.getElem_cons_succ, List.getElem_cons_zero] using b4
        obtain ⟨b0, lw, ds, B9, hm9, hf9, hn9⟩ := HBT9.out.pa
        have HF9 := Lib.hid hf9
        clear hdoc hm9 hf9 hn9
        go_wp2_with fail
        go_loopw [50] (fun jv wr => ∃ j9 : Nat, j9 ≤ L2.length ∧ jv = .int .i64 j9 ∧ Hid (Below t9.heap.size t9 wr)) (fun jv _ => L2.length - (intOf jv).toNat)
        case atStart => exact ⟨0, Nat.zero_le _, rfl, Lib.hid (Below.refl _ _)⟩
        case round =>
          obtain ⟨W4, hW4⟩ : ∃ x, x = wr := ⟨_, rfl⟩
          subst hW4
          obtain ⟨j9, hj9, rfl, HB94⟩ := hrel
          have j0 : (0 : Int) ≤ j9 := by omega
          by_cases hjl : j9 < L2.length
          · have j1 : (j9 : Int) < L2.length := by omega
            have jc : (j9 : Int) < lc := by omega
            have jx : (j9 : Int) < 9223372036854775807 := by omega
            have HFI := HBT9.out.iv.m L2[j9] (List.getElem_mem hjl)
            have hml : L2[j9].loc.length ≤ 100 := Nat.le_trans (inv_loc HSM.out HFI) (by decide)
            have hms : L2[j9].stk.length ≤ 100 := Nat.le_trans HFI.s (by decide)
            have HFF : Hid (∀ w', Below t9.heap.size t9 w' → Calls Try.prog 26 #[fp s, .int .i64 j9] w' (FrameEnd w' L2[j9])) := Lib.hid (fun w' hb => fframe_any (frs_below HF9.out hb) j9 hjl hn24 hml hms)
            obtain ⟨V9, hv1, hv2, hv3, hv4⟩ := (doc_below HD.out HB94.out).row
            obtain ⟨bl, off, cp, e1, r1, r2, hbl, r4⟩ := readR_pos hv1 (by omega)
            injection e1 with e1 e1b e3
            simp only at e1
            subst e1
            have hjv : j9 < V9.length := by omega
            have d0 : W4.cell? ⟨bl, off + j9 * 4, none⟩ = some (.int .i64 V9[j9].f) := r4 j9 hjv 0 (by decide)
            have d1 : W4.cell? ⟨bl, off + j9 * 4 + 1, none⟩ = some (.int .i64 V9[j9].at_) := r4 j9 hjv 1 (by decide)
            have d2 : W4.cell? ⟨bl, off + j9 * 4 + 2, none⟩ = some (.slice V9[j9].l.a V9[j9].l.n V9[j9].l.c) := r4 j9 hjv 2 (by decide)
            have d3 : W4.cell? ⟨bl, off + j9 * 4 + 3, none⟩ = some (.slice V9[j9].s.a V9[j9].s.n V9[j9].s.c) := r4 j9 hjv 3 (by decide)
            obtain ⟨gf9, ga9, gl9, glt9, gs9, gst9⟩ := hv4 j9 hjv hjl
            generalize V9[j9] = v9 at *
            obtain ⟨m9, hmm9⟩ : ∃ m9, m9 = L2[j9] := ⟨_, rfl⟩
            rw [← hmm9] at hml hms HFF gf9 ga9 gl9 gs9
            obtain ⟨vf, va, ⟨xa, xn, xc⟩, ⟨ya, yn, yc⟩⟩ := v9
            simp only at d0 d1 d2 d3 gf9 ga9 gl9 gs9
            have g7 : xn = m9.loc.length := by
              obtain ⟨_, _, e7, _⟩ := readR_len gl9
              injection e7
            have g8 : yn = m9.stk.length := by
              obtain ⟨_, _, e7, _⟩ := readR_len gs9
              injection e7
            subst gf9 ga9 g7 g8
            have HL9 := Lib.hid hml
            have HS9 := Lib.hid hms
            have HA1 := Lib.hid gl9
            have HA2 := Lib.hid gs9
            clear hmm9 HFI hml hms glt9 gst9 gl9 gs9 hv1 hv2 hv3 hv4 r1 r2 r4 e1b e3 hjv
            go_upto_region 12 with fail
            refine wp_named ?_
            intro W5 hW5
            have HX5 : Hid (Blk W5 W4.heap.size [.int .i64 m9.f, .int .i64 m9.at_, .slice xa m9.loc.length xc, .slice ya m9.stk.length yc]) := Lib.hid (by rw [hW5]; exact blk_new _ _ _)
            have HB45 : Hid (Below W4.heap.size W4 W5) := Lib.hid (by rw [hW5]; exact b_alloc (Below.refl _ _) _)
            clear hW5 d0 d1 d2 d3 hbl
            go_wp2_with fail
            refine (HFF.out W5 (b_call HB94.out HB45.out)).mono ?_
            rintro e W6 ⟨a1, q1, a2, q2, rfl, hr1, hr2, hb6⟩
            have HB6 := Lib.hid hb6
            have HR1 := Lib.hid hr1
            have HR2 := Lib.hid hr2
            clear hb6 hr1 hr2
            go_upto_region 13 with fail
            refine wp_named ?_
            intro W7 hW7
            have HX7 : Hid (Blk W7 W6.heap.size [.int .i64 m9.f, .int .i64 m9.at_, .slice a1 m9.loc.length q1, .slice a2 m9.stk.length q2]) := Lib.hid (by rw [hW7]; exact blk_new _ _ _)
            have HB67 : Hid (Below W6.heap.size W6 W7) := Lib.hid (by rw [hW7]; exact b_alloc (Below.refl _ _) _)
            have HB47 := Lib.hid (b_call HB45.out (b_call HB6.out HB67.out))
            have HX57 := Lib.hid (blk_below HX5.out (b_call HB6.out HB67.out))
            clear hW7
            obtain ⟨p0, p1, p2, p3, pf⟩ := blk4 HX57.out
            obtain ⟨q0, q1', q2', q3, qf⟩ := blk4 HX7.out
            have pz := HX57.out.1
            have qz := HX7.out.1
            go_wp2_with fail
            refine (lsame28 _ _ m9.loc _ (readR_below HR1.out HB67.out) (readR_below HA1.out HB47.out) HL9.out).mono ?_
            rintro e W8 ⟨rfl, hb8⟩
            have HB8 := Lib.hid hb8
            have HX58 := Lib.hid (blk_below HX57.out hb8)
            have HX78 := Lib.hid (blk_below HX7.out hb8)
            clear p0 p1 p2 p3 pf q0 q1' q2' q3 qf pz qz hb8
            obtain ⟨p0, p1, p2, p3, pf⟩ := blk4 HX58.out
            obtain ⟨q0, q1', q2', q3, qf⟩ := blk4 HX78.out
            have pz := HX58.out.1
            have qz := HX78.out.1
            go_wp2_with fail
            refine (lsame28 _ _ m9.stk _ (readR_below HR2.out (b_call HB67.out HB8.out)) (readR_below HA2.out (b_call HB47.out HB8.out)) HS9.out).mono ?_
            rintro e W9 ⟨rfl, hb9⟩
            have HB9 := Lib.hid hb9
            clear p0 p1 p2 p3 pf q0 q1' q2' q3 qf pz qz hb9
            go_wp2_with fail
            go_roundw
            case rel => exact ⟨j9 + 1, by omega, by first | rfl | go_num, Lib.hid (b_call HB94.out (b_call HB47.out (b_call HB8.out HB9.out)))⟩
            case measure => simp [intOf]; omega
          · have j1 : ¬ ((j9 : Int) < L2.length) := by omega
            go_wp2_with fail
            go_roundw
            case rel => exact ⟨k9 + 1, by omega, by first | rfl | go_num, Lib.hid ⟨L2, both_below HBT9.out HB94.out⟩⟩
            case measure => simp [intOf]; omega
    · have i1 : ¬ ((k9 : Int) < V.length) := by omega
      obtain ⟨lv, hdoc⟩ := HBT.out.da
      obtain ⟨n1, n2, n3⟩ := doc_len hdoc
      have b4 := hdoc.hd.2.1 4 (by simp)
      simp only [List.getElem_cons_succ, List.getElem_cons_zero] at b4
      rw [n1] at b4
      have bz := hdoc.hd.1
      obtain ⟨b0, lw, ds, B9, hm9, hf9, hn9⟩ := HBT.out.pa
      have HF9 := Lib.hid (fframe_none hf9 L.length (Int.le_refl _) HBT.out.iv.n)
      clear hdoc hm9 hf9 hn9 n1 n2 n3
      go_wp2_with fail
      refine HF9.out.mono ?_
      rintro e w5 ⟨rfl, hb5⟩
      have HB5 := Lib.hid (b_call HBW1.out hb5)
      clear hb5 b4 bz HF9
      go_wp2_with fail
      refine (awake28 _).mono ?_
      rintro e w6 ⟨rfl, hb6⟩
      have HB6 := Lib.hid (b_call (b_alloc HB5.out _) hb6)
      clear hb6
      go_wp2_with fail
      go_ret
      exact ⟨rfl, HB6.out⟩
end Go.Proofs.Ytdmidnmciaediaa
