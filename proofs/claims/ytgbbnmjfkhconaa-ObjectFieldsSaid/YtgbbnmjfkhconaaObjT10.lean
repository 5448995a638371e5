/- Layer 17's 'step', the arm of kind 10 (somebody writes). Conditions: an arena and the document's row, alike. -/
import Derived.Test.YtgbbnmjfkhconaaObjT0
namespace Go.Proofs.Ytgbbnmjfkhconaa
open Go.RowKit
set_option linter.unusedVariables false
set_option linter.unusedSimpArgs false
attribute [local go_sem] over_cell over_frozen
set_option maxRecDepth 100000 in
set_option maxHeartbeats 4000000 in
theorem step17_k10 {w wr : World} {b g cap gr cr : Nat} {L : List Int} (P : PlO w wr b g cap gr cr L) (a f t v r n : Int) (hv : 0 ≤ v ∧ v < 18446744073709551616) (ht : -9223372036854775808 ≤ t ∧ t ≤ 9223372036854775807) : Calls Try.prog 49 #[tp b, rowV gr L cr, opV 10 a f t v r n] wr (StepRet w b g cap L.length) := by
  have BX : Blk (wr.alloc (.cells #[.int .i64 10, .int .i64 a, .int .i64 f, .int .i64 t, .int .u64 v, .int .i64 r, .int .i64 n] 78)) wr.heap.size [.int .i64 10, .int .i64 a, .int .i64 f, .int .i64 t, .int .u64 v, .int .i64 r, .int .i64 n] := blk_new _ _ _
  have PX := plo_below P (b_alloc (Below.refl wr.heap.size wr) (.cells #[.int .i64 10, .int .i64 a, .int .i64 f, .int .i64 t, .int .u64 v, .int .i64 r, .int .i64 n] 78))
  have HXN : Hid (wr.heap.size ≠ b ∧ wr.heap.size ≠ g ∧ wr.heap.size ≠ gr) := by
    have q1 := P.a.hd.1
    have q2 := P.a.rw.1
    have q3 := P.r.rw.1
    exact ⟨by omega, by omega, by omega⟩
  have HBX := Lib.hid BX
  have HPX := Lib.hid PX
  have hmx := P.a.mx
  clear BX PX
  have HSR := Lib.hid (asetw_any HPX.out.a a v hv.1 hv.2)
  unfold tp rowV opV at *
  by_cases h0 : wordE L.length a = 0
  case neg =>
    have e2 : setW L a v = L := by unfold setW; rw [if_neg h0]
    rw [e2] at HSR
    generalize wordE L.length a = E at *
    clear e2 P hv ht
    go_enter Try.func49, Try.ntmps49
    go_wp2_with fail
    refine HSR.out.mono ?_
    rintro e w3 ⟨rfl, A3, G3⟩
    have HP3 := Lib.hid (plo_same HPX.out G3 A3)
    clear A3 G3
    go_wp2_with fail
    go_ret2
    exact ⟨gr, cr, _, by first | rfl | (simp only [beq_self_eq_true]; rfl), HP3.out, rfl⟩
  case pos =>
    obtain ⟨p, rfl, h2⟩ : ∃ p : Nat, a = p ∧ p + 8 ≤ L.length := by
      rcases wordE_cases L.length a with ⟨q, _⟩ | ⟨q, _⟩ | ⟨_, _, k, q, q1, _⟩
      · omega
      · omega
      · exact ⟨k, q, q1⟩
    have e2 : setW L p v = lay L p (putL 8 v) := by rw [setW_ok h0, Int.toNat_natCast]
    have HPUT := Lib.hid (fun w => rnput_any 8 v w (by decide) hv.1 hv.2)
    have HWI := Lib.hid (fun (w1 : World) (R : RowAt w1 gr cr L) u hu => r3with_any R p u (putL 8 v) hu (isBytes_putL _ _) (by rw [putL_length]; exact h2))
    have HLL : Hid ((lay L p (putL 8 v)).length = L.length) := lay_length (by rw [putL_length]; exact h2)
    rw [e2, h0] at HSR
    generalize lay L p (putL 8 v) = M at *
    generalize putL 8 v = PV at *
    unfold rowV at HWI
    clear e2 h0 h2 P ht
    go_enter Try.func49, Try.ntmps49
    go_wp2_with fail
    refine HSR.out.mono ?_
    rintro e w3 ⟨rfl, A3, G3⟩
    have HA3 := Lib.hid A3
    have HG3 := Lib.hid G3
    have HR3 := Lib.hid (row_grown HPX.out.r G3 (by intro e; injection e with e; exact HPX.out.ng e.symm))
    have HXC : Hid (∀ w', Below w3.heap.size w3 w' → w'.cell? ⟨wr.heap.size, 1, none⟩ = some (.int .i64 p) ∧ w'.cell? ⟨wr.heap.size, 4, none⟩ = some (.int .u64 v)) := Lib.hid (fun w' hb => by
      obtain ⟨_, y1, _, _, y4, _⟩ := o_blk7 (blk_below (blk_grown HBX.out G3 (by intro e; injection e with e; exact HXN.out.2.1 e)) hb); exact ⟨y1, y4⟩)
    clear A3 G3
    go_wp2_with fail
    refine wp_region_held_drew (S := fun w' => w'.cell? ⟨wr.heap.size, 1, none⟩ = some (.int .i64 p) ∧ w'.cell? ⟨wr.heap.size, 4, none⟩ = some (.int .u64 v)) (by kernel_rfl) (HXC.out _ (b_drew (Below.refl _ _))) (fun hHeld => ?_)
    (refine wpAnyH_take (i := 0) (v := ?_) rfl (by kernel_rfl) (by kernel_rfl) (by kernel_rfl) (fun _ _ _ h => h) (Or.inl ⟨by rfl, ?_⟩) hHeld ?_; rotate_left; (focus (intro w hSw; (try dsimp only at hSw); go_simp; try (with_reducible rfl))); (try simp only [Act.put, List.getElem_toArray, List.getElem_cons_succ, List.getElem_cons_zero, List.setIfInBounds_toArray, List.set_cons_zero, List.set_cons_succ]))
    (refine wpAnyH_take (i := 1) (v := ?_) rfl (by kernel_rfl) (by kernel_rfl) (by kernel_rfl) (fun _ _ _ h => h) (Or.inl ⟨by rfl, ?_⟩) hHeld ?_; rotate_left; (focus (intro w hSw; (try dsimp only at hSw); go_simp; try (with_reducible rfl))); (try simp only [Act.put, List.getElem_toArray, List.getElem_cons_succ, List.getElem_cons_zero, List.setIfInBounds_toArray, List.set_cons_zero, List.set_cons_succ]))
    (refine wpAnyH_take (i := 2) (v := ?_) rfl (by kernel_rfl) (by kernel_rfl) (by kernel_rfl) (fun _ _ _ h => h) (Or.inl ⟨by rfl, ?_⟩) hHeld ?_; rotate_left; (focus (intro w hSw; (try dsimp only at hSw); go_simp; try (with_reducible rfl))); (try simp only [Act.put, List.getElem_toArray, List.getElem_cons_succ, List.getElem_cons_zero, List.setIfInBounds_toArray, List.set_cons_zero, List.set_cons_succ]))
    (refine wpAnyH_take (i := 3) (v := ?_) rfl (by kernel_rfl) (by kernel_rfl) (by kernel_rfl) (fun _ _ _ h => h) (Or.inl ⟨by rfl, ?_⟩) hHeld ?_; rotate_left; (focus (intro w hSw; (try dsimp only at hSw); go_simp; try (with_reducible rfl))); (try simp only [Act.put, List.getElem_toArray, List.getElem_cons_succ, List.getElem_cons_zero, List.setIfInBounds_toArray, List.set_cons_zero, List.set_cons_succ]))
    (refine wpAnyH_take (i := 4) (v := ?_) rfl (by kernel_rfl) (by kernel_rfl) (by kernel_rfl) (fun _ _ _ h => h) (Or.inl ⟨by rfl, ?_⟩) hHeld ?_; rotate_left; (focus (intro w hSw; (try dsimp only at hSw); go_simp; try (with_reducible rfl))); (try simp only [Act.put, List.getElem_toArray, List.getElem_cons_succ, List.getElem_cons_zero, List.setIfInBounds_toArray, List.set_cons_zero, List.set_cons_succ]))
    refine wpAnyH_ready (rs := [5]) (by kernel_rfl) (by simp) (AllReadyH.cons rfl (fun K hK => ?_) AllReadyH.nil)
    go_simp
    refine (HPUT.out _).mono ?_
    rintro e w4 ⟨v4, rfl, own4, hb4⟩
    have HB4 := Lib.hid (b_call (b_drew (Below.refl w3.heap.size w3)) hb4)
    have HO4 := Lib.hid (ownB_read own4)
    clear hb4 own4
    refine hK.out _ _ (HXC.out _ HB4.out) (fun hHeld => ?_)
    clear hK K
    (try simp only [Act.put, List.getElem_toArray, List.getElem_cons_succ, List.getElem_cons_zero, List.setIfInBounds_toArray, List.set_cons_zero, List.set_cons_succ])
    refine wpAnyH_ready (rs := [6]) (by kernel_rfl) (by simp) (AllReadyH.cons rfl (fun K hK => ?_) AllReadyH.nil)
    go_simp
    refine (HWI.out _ (row_below HR3.out HB4.out) v4 HO4.out).mono ?_
    rintro e w5 ⟨g5, c5, rfl, R5, hg5, hb5⟩
    have hB5 := b_call HB4.out hb5
    have HP5 := Lib.hid (plo_new HPX.out HG3.out HA3.out hB5 R5 (by have := HB4.out.size; omega))
    have HB5 := Lib.hid hB5
    clear R5 hg5 hb5 hB5
    unfold rowV
    refine hK.out _ _ (HXC.out _ HB5.out) (fun hHeld => ?_)
    clear hK K
    (try simp only [Act.put, List.getElem_toArray, List.getElem_cons_succ, List.getElem_cons_zero, List.setIfInBounds_toArray, List.set_cons_zero, List.set_cons_succ])
    (refine wpAnyH_take (i := 7) (v := ?_) rfl (by kernel_rfl) (by kernel_rfl) (by kernel_rfl) (fun _ _ _ h => h) (Or.inl ⟨by rfl, ?_⟩) hHeld ?_; rotate_left; (focus (intro w hSw; (try dsimp only at hSw); go_simp; try (with_reducible rfl))); (try simp only [Act.put, List.getElem_toArray, List.getElem_cons_succ, List.getElem_cons_zero, List.setIfInBounds_toArray, List.set_cons_zero, List.set_cons_succ]))
    (refine wpAnyH_take (i := 8) (v := ?_) rfl (by kernel_rfl) (by kernel_rfl) (by kernel_rfl) (fun _ _ _ h => h) (Or.inl ⟨by rfl, ?_⟩) hHeld ?_; rotate_left; (focus (intro w hSw; (try dsimp only at hSw); go_simp; try (with_reducible rfl))); (try simp only [Act.put, List.getElem_toArray, List.getElem_cons_succ, List.getElem_cons_zero, List.setIfInBounds_toArray, List.set_cons_zero, List.set_cons_succ]))
    refine wpAnyH_done (by kernel_rfl) ?_ _
    go_wp2_with fail
    go_ret2
    exact ⟨g5, c5, _, by first | rfl | (simp only [beq_self_eq_true]; rfl), HP5.out, HLL.out⟩
end Go.Proofs.Ytgbbnmjfkhconaa
