/- Layer 17's 'step', the arm of kind 0, 1 (Make). Conditions: an arena and the document's row, alike. -/
import Derived.Test.YtgbbnmjfkhconaaObjT0
namespace Go.Proofs.Ytgbbnmjfkhconaa
open Go.RowKit
set_option linter.unusedVariables false
set_option linter.unusedSimpArgs false
attribute [local go_sem] over_cell over_frozen
set_option maxRecDepth 100000 in
set_option maxHeartbeats 4000000 in
theorem step17_k0 {w wr : World} {b g cap gr cr : Nat} {L : List Int} (P : PlO w wr b g cap gr cr L) (a f t v r n : Int) (hv : 0 ≤ v ∧ v < 18446744073709551616) (ht : -9223372036854775808 ≤ t ∧ t ≤ 9223372036854775807) : Calls Try.prog 49 #[tp b, rowV gr L cr, opV 0 a f t v r n] wr (StepRet w b g cap L.length) := by
  have BX : Blk (wr.alloc (.cells #[.int .i64 0, .int .i64 a, .int .i64 f, .int .i64 t, .int .u64 v, .int .i64 r, .int .i64 n] 78)) wr.heap.size [.int .i64 0, .int .i64 a, .int .i64 f, .int .i64 t, .int .u64 v, .int .i64 r, .int .i64 n] := blk_new _ _ _
  have PX := plo_below P (b_alloc (Below.refl wr.heap.size wr) (.cells #[.int .i64 0, .int .i64 a, .int .i64 f, .int .i64 t, .int .u64 v, .int .i64 r, .int .i64 n] 78))
  have HXN : Hid (wr.heap.size ≠ b ∧ wr.heap.size ≠ g ∧ wr.heap.size ≠ gr) := by
    have q1 := P.a.hd.1
    have q2 := P.a.rw.1
    have q3 := P.r.rw.1
    exact ⟨by omega, by omega, by omega⟩
  have HBX := Lib.hid BX
  have HPX := Lib.hid PX
  have hmx := P.a.mx
  clear BX PX
  have HRM := Lib.hid (rmake_any HPX.out.r a r n)
  have HM := Lib.hid (fun (w1 : World) (h1 : AreAt w1 b g cap L) => omake_any h1 a r n)
  have HO := Lib.hid (fun w => ours17_any r n w)
  have hML := Lib.hid (mkL_length L a r n)
  generalize mkL L a r n = M at *
  generalize mkE L a r n = E at *
  unfold shp tp rowV opV at *
  clear P hv ht
  go_enter Try.func49, Try.ntmps49
  go_wp2_with fail
  refine HRM.out.mono ?_
  rintro e w2 ⟨g1, c1, rfl, R1, hor, hb2⟩
  have HXC : Hid (∀ w', Below w2.heap.size w2 w' → w'.cell? ⟨wr.heap.size, 1, none⟩ = some (.int .i64 a) ∧ w'.cell? ⟨wr.heap.size, 5, none⟩ = some (.int .i64 r) ∧ w'.cell? ⟨wr.heap.size, 6, none⟩ = some (.int .i64 n)) := Lib.hid (fun w' hb => by
    obtain ⟨_, y1, _, _, _, y5, y6, _⟩ := o_blk7 (blk_below (blk_below HBX.out hb2) hb); exact ⟨y1, y5, y6⟩)
  have HA2 := Lib.hid (are_below HPX.out.a hb2)
  have HB2 := Lib.hid hb2
  have HR1 := Lib.hid R1
  have HOR := Lib.hid hor
  clear hb2 R1 hor
  unfold rowV
  go_wp2_with fail
  refine wp_region_held_drew (S := fun w' => w'.cell? ⟨wr.heap.size, 1, none⟩ = some (.int .i64 a) ∧ w'.cell? ⟨wr.heap.size, 5, none⟩ = some (.int .i64 r) ∧ w'.cell? ⟨wr.heap.size, 6, none⟩ = some (.int .i64 n)) (by kernel_rfl) (HXC.out _ (b_drew (Below.refl _ _))) (fun hHeld => ?_)
  (refine wpAnyH_take (i := 0) (v := ?_) rfl (by kernel_rfl) (by kernel_rfl) (by kernel_rfl) (fun _ _ _ h => h) (Or.inl ⟨by rfl, ?_⟩) hHeld ?_; rotate_left; (focus (intro w hSw; (try dsimp only at hSw); go_simp; try (with_reducible rfl))); (try simp only [Act.put, List.getElem_toArray, List.getElem_cons_succ, List.getElem_cons_zero, List.setIfInBounds_toArray, List.set_cons_zero, List.set_cons_succ]))
  (refine wpAnyH_take (i := 1) (v := ?_) rfl (by kernel_rfl) (by kernel_rfl) (by kernel_rfl) (fun _ _ _ h => h) (Or.inl ⟨by rfl, ?_⟩) hHeld ?_; rotate_left; (focus (intro w hSw; (try dsimp only at hSw); go_simp; try (with_reducible rfl))); (try simp only [Act.put, List.getElem_toArray, List.getElem_cons_succ, List.getElem_cons_zero, List.setIfInBounds_toArray, List.set_cons_zero, List.set_cons_succ]))
  (refine wpAnyH_take (i := 2) (v := ?_) rfl (by kernel_rfl) (by kernel_rfl) (by kernel_rfl) (fun _ _ _ h => h) (Or.inl ⟨by rfl, ?_⟩) hHeld ?_; rotate_left; (focus (intro w hSw; (try dsimp only at hSw); go_simp; try (with_reducible rfl))); (try simp only [Act.put, List.getElem_toArray, List.getElem_cons_succ, List.getElem_cons_zero, List.setIfInBounds_toArray, List.set_cons_zero, List.set_cons_succ]))
  (refine wpAnyH_take (i := 3) (v := ?_) rfl (by kernel_rfl) (by kernel_rfl) (by kernel_rfl) (fun _ _ _ h => h) (Or.inl ⟨by rfl, ?_⟩) hHeld ?_; rotate_left; (focus (intro w hSw; (try dsimp only at hSw); go_simp; try (with_reducible rfl))); (try simp only [Act.put, List.getElem_toArray, List.getElem_cons_succ, List.getElem_cons_zero, List.setIfInBounds_toArray, List.set_cons_zero, List.set_cons_succ]))
  (refine wpAnyH_take (i := 4) (v := ?_) rfl (by kernel_rfl) (by kernel_rfl) (by kernel_rfl) (fun _ _ _ h => h) (Or.inl ⟨by rfl, ?_⟩) hHeld ?_; rotate_left; (focus (intro w hSw; (try dsimp only at hSw); go_simp; try (with_reducible rfl))); (try simp only [Act.put, List.getElem_toArray, List.getElem_cons_succ, List.getElem_cons_zero, List.setIfInBounds_toArray, List.set_cons_zero, List.set_cons_succ]))
  (refine wpAnyH_take (i := 5) (v := ?_) rfl (by kernel_rfl) (by kernel_rfl) (by kernel_rfl) (fun _ _ _ h => h) (Or.inl ⟨by rfl, ?_⟩) hHeld ?_; rotate_left; (focus (intro w hSw; (try dsimp only at hSw); go_simp; try (with_reducible rfl))); (try simp only [Act.put, List.getElem_toArray, List.getElem_cons_succ, List.getElem_cons_zero, List.setIfInBounds_toArray, List.set_cons_zero, List.set_cons_succ]))
  (refine wpAnyH_take (i := 8) (v := ?_) rfl (by kernel_rfl) (by kernel_rfl) (by kernel_rfl) (fun _ _ _ h => h) (Or.inl ⟨by rfl, ?_⟩) hHeld ?_; rotate_left; (focus (intro w hSw; (try dsimp only at hSw); go_simp; try (with_reducible rfl))); (try simp only [Act.put, List.getElem_toArray, List.getElem_cons_succ, List.getElem_cons_zero, List.setIfInBounds_toArray, List.set_cons_zero, List.set_cons_succ]))
  refine wpAnyH_ready (rs := [6]) (by kernel_rfl) (by simp) (AllReadyH.cons rfl (fun K hK => ?_) AllReadyH.nil)
  go_simp
  refine (HO.out _).mono ?_
  rintro e w3 ⟨rfl, hb3⟩
  have HB3 := Lib.hid (b_call (b_drew (Below.refl w2.heap.size w2)) hb3)
  clear hb3
  refine hK.out _ _ (HXC.out _ HB3.out) (fun hHeld => ?_)
  clear hK K
  (try simp only [Act.put, List.getElem_toArray, List.getElem_cons_succ, List.getElem_cons_zero, List.setIfInBounds_toArray, List.set_cons_zero, List.set_cons_succ])
  refine wpAnyH_ready (rs := [7]) (by kernel_rfl) (by simp) (AllReadyH.cons rfl (fun K hK => ?_) AllReadyH.nil)
  go_simp
  refine (HM.out _ (are_below HA2.out HB3.out)).mono ?_
  rintro e w4 ⟨rfl, A4, G4⟩
  have HP4 := Lib.hid (plo_make HPX.out HB2.out HR1.out HOR.out HB3.out G4 A4)
  have HX4 : Hid (w4.cell? ⟨wr.heap.size, 1, none⟩ = some (.int .i64 a) ∧ w4.cell? ⟨wr.heap.size, 5, none⟩ = some (.int .i64 r) ∧ w4.cell? ⟨wr.heap.size, 6, none⟩ = some (.int .i64 n)) := by
    obtain ⟨_, y1, _, _, _, y5, y6, _⟩ := o_blk7 (blk_grown (blk_below (blk_below HBX.out HB2.out) HB3.out) G4 (by intro e; injection e with e; exact HXN.out.2.1 e)); exact ⟨y1, y5, y6⟩
  clear A4 G4
  refine hK.out _ _ (HX4.out) (fun hHeld => ?_)
  clear hK K
  (try simp only [Act.put, List.getElem_toArray, List.getElem_cons_succ, List.getElem_cons_zero, List.setIfInBounds_toArray, List.set_cons_zero, List.set_cons_succ])
  (refine wpAnyH_take (i := 9) (v := ?_) rfl (by kernel_rfl) (by kernel_rfl) (by kernel_rfl) (fun _ _ _ h => h) (Or.inl ⟨by rfl, ?_⟩) hHeld ?_; rotate_left; (focus (intro w hSw; (try dsimp only at hSw); go_simp; try (with_reducible rfl))); (try simp only [Act.put, List.getElem_toArray, List.getElem_cons_succ, List.getElem_cons_zero, List.setIfInBounds_toArray, List.set_cons_zero, List.set_cons_succ]))
  (refine wpAnyH_take (i := 10) (v := ?_) rfl (by kernel_rfl) (by kernel_rfl) (by kernel_rfl) (fun _ _ _ h => h) (Or.inl ⟨by rfl, ?_⟩) hHeld ?_; rotate_left; (focus (intro w hSw; (try dsimp only at hSw); go_simp; try (with_reducible rfl))); (try simp only [Act.put, List.getElem_toArray, List.getElem_cons_succ, List.getElem_cons_zero, List.setIfInBounds_toArray, List.set_cons_zero, List.set_cons_succ]))
  (refine wpAnyH_take (i := 11) (v := ?_) rfl (by kernel_rfl) (by kernel_rfl) (by kernel_rfl) (fun _ _ _ h => h) (Or.inl ⟨by rfl, ?_⟩) hHeld ?_; rotate_left; (focus (intro w hSw; (try dsimp only at hSw); go_simp; try (with_reducible rfl))); (try simp only [Act.put, List.getElem_toArray, List.getElem_cons_succ, List.getElem_cons_zero, List.setIfInBounds_toArray, List.set_cons_zero, List.set_cons_succ]))
  refine wpAnyH_done (by kernel_rfl) ?_ _
  go_wp2_with fail
  go_ret2
  exact ⟨g1, c1, _, by first | rfl | (simp only [beq_self_eq_true]; rfl), HP4.out, hML.out⟩
set_option maxRecDepth 100000 in
set_option maxHeartbeats 4000000 in
theorem step17_k1 {w wr : World} {b g cap gr cr : Nat} {L : List Int} (P : PlO w wr b g cap gr cr L) (a f t v r n : Int) (hv : 0 ≤ v ∧ v < 18446744073709551616) (ht : -9223372036854775808 ≤ t ∧ t ≤ 9223372036854775807) : Calls Try.prog 49 #[tp b, rowV gr L cr, opV 1 a f t v r n] wr (StepRet w b g cap L.length) := by
  have BX : Blk (wr.alloc (.cells #[.int .i64 1, .int .i64 a, .int .i64 f, .int .i64 t, .int .u64 v, .int .i64 r, .int .i64 n] 78)) wr.heap.size [.int .i64 1, .int .i64 a, .int .i64 f, .int .i64 t, .int .u64 v, .int .i64 r, .int .i64 n] := blk_new _ _ _
  have PX := plo_below P (b_alloc (Below.refl wr.heap.size wr) (.cells #[.int .i64 1, .int .i64 a, .int .i64 f, .int .i64 t, .int .u64 v, .int .i64 r, .int .i64 n] 78))
  have HXN : Hid (wr.heap.size ≠ b ∧ wr.heap.size ≠ g ∧ wr.heap.size ≠ gr) := by
    have q1 := P.a.hd.1
    have q2 := P.a.rw.1
    have q3 := P.r.rw.1
    exact ⟨by omega, by omega, by omega⟩
  have HBX := Lib.hid BX
  have HPX := Lib.hid PX
  have hmx := P.a.mx
  clear BX PX
  have HRM := Lib.hid (rmake_any HPX.out.r a r n)
  have HM := Lib.hid (fun (w1 : World) (h1 : AreAt w1 b g cap L) => omake_any h1 a r n)
  have HO := Lib.hid (fun w => ours17_any r n w)
  have hML := Lib.hid (mkL_length L a r n)
  generalize mkL L a r n = M at *
  generalize mkE L a r n = E at *
  unfold shp tp rowV opV at *
  clear P hv ht
  go_enter Try.func49, Try.ntmps49
  go_wp2_with fail
  refine HRM.out.mono ?_
  rintro e w2 ⟨g1, c1, rfl, R1, hor, hb2⟩
  have HXC : Hid (∀ w', Below w2.heap.size w2 w' → w'.cell? ⟨wr.heap.size, 1, none⟩ = some (.int .i64 a) ∧ w'.cell? ⟨wr.heap.size, 5, none⟩ = some (.int .i64 r) ∧ w'.cell? ⟨wr.heap.size, 6, none⟩ = some (.int .i64 n)) := Lib.hid (fun w' hb => by
    obtain ⟨_, y1, _, _, _, y5, y6, _⟩ := o_blk7 (blk_below (blk_below HBX.out hb2) hb); exact ⟨y1, y5, y6⟩)
  have HA2 := Lib.hid (are_below HPX.out.a hb2)
  have HB2 := Lib.hid hb2
  have HR1 := Lib.hid R1
  have HOR := Lib.hid hor
  clear hb2 R1 hor
  unfold rowV
  go_wp2_with fail
  refine wp_region_held_drew (S := fun w' => w'.cell? ⟨wr.heap.size, 1, none⟩ = some (.int .i64 a) ∧ w'.cell? ⟨wr.heap.size, 5, none⟩ = some (.int .i64 r) ∧ w'.cell? ⟨wr.heap.size, 6, none⟩ = some (.int .i64 n)) (by kernel_rfl) (HXC.out _ (b_drew (Below.refl _ _))) (fun hHeld => ?_)
  (refine wpAnyH_take (i := 0) (v := ?_) rfl (by kernel_rfl) (by kernel_rfl) (by kernel_rfl) (fun _ _ _ h => h) (Or.inl ⟨by rfl, ?_⟩) hHeld ?_; rotate_left; (focus (intro w hSw; (try dsimp only at hSw); go_simp; try (with_reducible rfl))); (try simp only [Act.put, List.getElem_toArray, List.getElem_cons_succ, List.getElem_cons_zero, List.setIfInBounds_toArray, List.set_cons_zero, List.set_cons_succ]))
  (refine wpAnyH_take (i := 1) (v := ?_) rfl (by kernel_rfl) (by kernel_rfl) (by kernel_rfl) (fun _ _ _ h => h) (Or.inl ⟨by rfl, ?_⟩) hHeld ?_; rotate_left; (focus (intro w hSw; (try dsimp only at hSw); go_simp; try (with_reducible rfl))); (try simp only [Act.put, List.getElem_toArray, List.getElem_cons_succ, List.getElem_cons_zero, List.setIfInBounds_toArray, List.set_cons_zero, List.set_cons_succ]))
  (refine wpAnyH_take (i := 2) (v := ?_) rfl (by kernel_rfl) (by kernel_rfl) (by kernel_rfl) (fun _ _ _ h => h) (Or.inl ⟨by rfl, ?_⟩) hHeld ?_; rotate_left; (focus (intro w hSw; (try dsimp only at hSw); go_simp; try (with_reducible rfl))); (try simp only [Act.put, List.getElem_toArray, List.getElem_cons_succ, List.getElem_cons_zero, List.setIfInBounds_toArray, List.set_cons_zero, List.set_cons_succ]))
  (refine wpAnyH_take (i := 3) (v := ?_) rfl (by kernel_rfl) (by kernel_rfl) (by kernel_rfl) (fun _ _ _ h => h) (Or.inl ⟨by rfl, ?_⟩) hHeld ?_; rotate_left; (focus (intro w hSw; (try dsimp only at hSw); go_simp; try (with_reducible rfl))); (try simp only [Act.put, List.getElem_toArray, List.getElem_cons_succ, List.getElem_cons_zero, List.setIfInBounds_toArray, List.set_cons_zero, List.set_cons_succ]))
  (refine wpAnyH_take (i := 4) (v := ?_) rfl (by kernel_rfl) (by kernel_rfl) (by kernel_rfl) (fun _ _ _ h => h) (Or.inl ⟨by rfl, ?_⟩) hHeld ?_; rotate_left; (focus (intro w hSw; (try dsimp only at hSw); go_simp; try (with_reducible rfl))); (try simp only [Act.put, List.getElem_toArray, List.getElem_cons_succ, List.getElem_cons_zero, List.setIfInBounds_toArray, List.set_cons_zero, List.set_cons_succ]))
  (refine wpAnyH_take (i := 5) (v := ?_) rfl (by kernel_rfl) (by kernel_rfl) (by kernel_rfl) (fun _ _ _ h => h) (Or.inl ⟨by rfl, ?_⟩) hHeld ?_; rotate_left; (focus (intro w hSw; (try dsimp only at hSw); go_simp; try (with_reducible rfl))); (try simp only [Act.put, List.getElem_toArray, List.getElem_cons_succ, List.getElem_cons_zero, List.setIfInBounds_toArray, List.set_cons_zero, List.set_cons_succ]))
  (refine wpAnyH_take (i := 8) (v := ?_) rfl (by kernel_rfl) (by kernel_rfl) (by kernel_rfl) (fun _ _ _ h => h) (Or.inl ⟨by rfl, ?_⟩) hHeld ?_; rotate_left; (focus (intro w hSw; (try dsimp only at hSw); go_simp; try (with_reducible rfl))); (try simp only [Act.put, List.getElem_toArray, List.getElem_cons_succ, List.getElem_cons_zero, List.setIfInBounds_toArray, List.set_cons_zero, List.set_cons_succ]))
  refine wpAnyH_ready (rs := [6]) (by kernel_rfl) (by simp) (AllReadyH.cons rfl (fun K hK => ?_) AllReadyH.nil)
  go_simp
  refine (HO.out _).mono ?_
  rintro e w3 ⟨rfl, hb3⟩
  have HB3 := Lib.hid (b_call (b_drew (Below.refl w2.heap.size w2)) hb3)
  clear hb3
  refine hK.out _ _ (HXC.out _ HB3.out) (fun hHeld => ?_)
  clear hK K
  (try simp only [Act.put, List.getElem_toArray, List.getElem_cons_succ, List.getElem_cons_zero, List.setIfInBounds_toArray, List.set_cons_zero, List.set_cons_succ])
  refine wpAnyH_ready (rs := [7]) (by kernel_rfl) (by simp) (AllReadyH.cons rfl (fun K hK => ?_) AllReadyH.nil)
  go_simp
  refine (HM.out _ (are_below HA2.out HB3.out)).mono ?_
  rintro e w4 ⟨rfl, A4, G4⟩
  have HP4 := Lib.hid (plo_make HPX.out HB2.out HR1.out HOR.out HB3.out G4 A4)
  have HX4 : Hid (w4.cell? ⟨wr.heap.size, 1, none⟩ = some (.int .i64 a) ∧ w4.cell? ⟨wr.heap.size, 5, none⟩ = some (.int .i64 r) ∧ w4.cell? ⟨wr.heap.size, 6, none⟩ = some (.int .i64 n)) := by
    obtain ⟨_, y1, _, _, _, y5, y6, _⟩ := o_blk7 (blk_grown (blk_below (blk_below HBX.out HB2.out) HB3.out) G4 (by intro e; injection e with e; exact HXN.out.2.1 e)); exact ⟨y1, y5, y6⟩
  clear A4 G4
  refine hK.out _ _ (HX4.out) (fun hHeld => ?_)
  clear hK K
  (try simp only [Act.put, List.getElem_toArray, List.getElem_cons_succ, List.getElem_cons_zero, List.setIfInBounds_toArray, List.set_cons_zero, List.set_cons_succ])
  (refine wpAnyH_take (i := 9) (v := ?_) rfl (by kernel_rfl) (by kernel_rfl) (by kernel_rfl) (fun _ _ _ h => h) (Or.inl ⟨by rfl, ?_⟩) hHeld ?_; rotate_left; (focus (intro w hSw; (try dsimp only at hSw); go_simp; try (with_reducible rfl))); (try simp only [Act.put, List.getElem_toArray, List.getElem_cons_succ, List.getElem_cons_zero, List.setIfInBounds_toArray, List.set_cons_zero, List.set_cons_succ]))
  (refine wpAnyH_take (i := 10) (v := ?_) rfl (by kernel_rfl) (by kernel_rfl) (by kernel_rfl) (fun _ _ _ h => h) (Or.inl ⟨by rfl, ?_⟩) hHeld ?_; rotate_left; (focus (intro w hSw; (try dsimp only at hSw); go_simp; try (with_reducible rfl))); (try simp only [Act.put, List.getElem_toArray, List.getElem_cons_succ, List.getElem_cons_zero, List.setIfInBounds_toArray, List.set_cons_zero, List.set_cons_succ]))
  (refine wpAnyH_take (i := 11) (v := ?_) rfl (by kernel_rfl) (by kernel_rfl) (by kernel_rfl) (fun _ _ _ h => h) (Or.inl ⟨by rfl, ?_⟩) hHeld ?_; rotate_left; (focus (intro w hSw; (try dsimp only at hSw); go_simp; try (with_reducible rfl))); (try simp only [Act.put, List.getElem_toArray, List.getElem_cons_succ, List.getElem_cons_zero, List.setIfInBounds_toArray, List.set_cons_zero, List.set_cons_succ]))
  refine wpAnyH_done (by kernel_rfl) ?_ _
  go_wp2_with fail
  go_ret2
  exact ⟨g1, c1, _, by first | rfl | (simp only [beq_self_eq_true]; rfl), HP4.out, hML.out⟩
end Go.Proofs.Ytgbbnmjfkhconaa
