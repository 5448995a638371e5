/- Layer 28: chapter 28's example. No conditions. -/
import Derived.Test.YtdmidnmciaediaaFrm5
namespace Go.Proofs.Ytdmidnmciaediaa
open Go.RowKit
set_option linter.unusedVariables false
set_option linter.unusedSimpArgs false
attribute [local go_sem] over_cell over_frozen
def prW28 : PrM := ⟨false, [], 0, [⟨[0], [], 0, []⟩]⟩
theorem wake_small28 : SmallP prW28 := by
  refine ⟨by decide, by decide, fun f hf => ?_⟩
  simp only [prW28, List.mem_singleton] at hf
  subst hf
  exact ⟨by decide, by decide, by decide⟩
set_option maxHeartbeats 800000 in
theorem awake28 (w : World) : Calls Try.prog 24 #[] w fun e w' => e = .returned (.bool true) ∧ Below w.heap.size w w' := by
  obtain ⟨W, hW⟩ : ∃ W, W = (w.alloc (.cells #[.int .i64 0] INTT)).alloc (.cells #[.slice (some ⟨w.heap.size, 0, none⟩) 1 1, .slice none 0 0, .int .i64 0, .slice none 0 0] 122) := ⟨_, rfl⟩
  have hR : ReadP W ⟨false, ⟨none, 0, 0⟩, 0, ⟨some ⟨w.heap.size + 1, 0, none⟩, 1, 1⟩⟩ prW28 := by
    have h1 : ReadR intE (w.alloc (.cells #[.int .i64 0] INTT)) (.slice (some ⟨w.heap.size, 0, none⟩) 1 1) [0] := readR_new (c := intE) w INTT 0
    have h2 := readR_new (c := fnE) (w.alloc (.cells #[.int .i64 0] INTT)) 122 ⟨⟨some ⟨w.heap.size, 0, none⟩, 1, 1⟩, ⟨none, 0, 0⟩, 0, ⟨none, 0, 0⟩⟩
    rw [World.size_alloc] at h2
    rw [hW]
    exact ⟨rfl, readI_nil _, rfl, _, h2, ⟨readI_below (readR_I h1) (b_alloc (Below.refl _ _) _), readI_nil _, rfl, readR_nil _⟩, trivial⟩
  have HB : Hid (Below w.heap.size w W) := by rw [hW]; exact b_alloc (b_alloc (Below.refl _ _) _) _
  have HR := Lib.hid hR
  clear hR
  have HN := Lib.hid (fnew_any ⟨false, ⟨none, 0, 0⟩, 0, ⟨some ⟨w.heap.size + 1, 0, none⟩, 1, 1⟩⟩ (Below.refl W.heap.size W))
  rw [hW] at HN
  go_enter Try.func24, Try.ntmps24
  go_wp2_with fail
  refine HN.out.mono ?_
  rw [← hW]
  clear HN hW
  rintro e w1 ⟨s, rfl, hf1, hs1, hb1⟩
  go_wp2_with fail
  refine (vint_any 7 _).mono ?_
  rintro e w2 ⟨rfl, hb2⟩
  have hf2 := frs_below hf1 hb2
  have HA : Hid (ReadR valE (w2.alloc (.cells #[.int .i64 0, .int .u64 7] VALT)) (.slice (some ⟨w2.heap.size, 0, none⟩) 1 1) [⟨0, 7⟩]) := readR_new (c := valE) w2 VALT ⟨0, 7⟩
  have hf3 := frs_below hf2 (b_alloc (Below.refl w2.heap.size w2) (.cells #[.int .i64 0, .int .u64 7] VALT))
  have HF3 := Lib.hid hf3
  have HB1 := Lib.hid (b_call HB.out hb1)
  clear hf1 hf2 hf3 hb1 hb2
  unfold aggV intV
  go_wp2_with fail
  refine (fcall_any (P := prW28) HF3.out HR.out wake_small28 0 (by decide) HA.out (by decide) rfl (by decide)).mono ?_
  rintro e w4 ⟨rfl, ⟨lv4, ds4, hf4⟩, hg4⟩
  obtain ⟨ds', d', rfl, _, _⟩ := frAll_last hf4.fr
  have HF4 := Lib.hid hf4
  have HL := Lib.hid (flocal_any hf4 0 (by decide))
  clear hf4 hg4
  go_wp2_with fail
  refine HL.out.mono ?_
  rintro e w5 ⟨rfl, hb5⟩
  have e7 : ((([⟨0, 7⟩] : List ValM) ++ zeroV (prW28.fs[0]'(by decide)).ls)[0]'(by decide)) = ⟨0, 7⟩ := rfl
  have hf5 := frs_below HF4.out hb5
  have HF5 := Lib.hid hf5
  clear hf5
  unfold aggV
  simp only
  have BX := blk_new w5 #[.int .i64 0, .int .u64 7] VALT
  have HK : Hid (∀ w', Below (w5.alloc (.cells #[.int .i64 0, .int .u64 7] VALT)).heap.size (w5.alloc (.cells #[.int .i64 0, .int .u64 7] VALT)) w' → w'.cell? ⟨w5.heap.size, 0, none⟩ = some (.int .i64 0) ∧ w'.cell? ⟨w5.heap.size, 1, none⟩ = some (.int .u64 7)) := Lib.hid (fun w' hb => by
    obtain ⟨y0, y1, _⟩ := blk2 (blk_below BX hb); exact ⟨y0, y1⟩)
  have HB6 : Hid (Below w2.heap.size w2 w2) := Below.refl _ _
  have HF6 := Lib.hid (frs_below HF5.out (b_alloc (Below.refl w5.heap.size w5) (.cells #[.int .i64 0, .int .u64 7] VALT)))
  clear BX
  go_upto_region 4 with fail
  have kg := guardVal
  have kq : ∀ w, (binOp .eql 41 (.agg #[.int .i64 0, .int .u64 7]) (.agg #[.int .i64 0, .int .u64 7])).run Try.prog w = .ok (.bool true) w := fun w => by rw [eqVal]; rfl
  refine wp_region_held_drew (S := (fun w' => w'.cell? ⟨w5.heap.size, 0, none⟩ = some (.int .i64 0) ∧ w'.cell? ⟨w5.heap.size, 1, none⟩ = some (.int .u64 7))) (by kernel_rfl) (HK.out _ (b_drew (Below.refl _ _))) (fun hHeld => ?_)
  (refine wpAnyH_take (i := 0) (v := ?_) rfl (by kernel_rfl) (by kernel_rfl) (by kernel_rfl) (fun _ _ _ h => h) (Or.inl ⟨by rfl, ?_⟩) hHeld ?_; rotate_left; (focus (intro w hSw; (try dsimp only at hSw); go_simp; try (with_reducible rfl))); (try simp only [Act.put, List.getElem_toArray, List.getElem_cons_succ, List.getElem_cons_zero, List.setIfInBounds_toArray, List.set_cons_zero, List.set_cons_succ]))
  (refine wpAnyH_take (i := 1) (v := ?_) rfl (by kernel_rfl) (by kernel_rfl) (by kernel_rfl) (fun _ _ _ h => h) (Or.inl ⟨by rfl, ?_⟩) hHeld ?_; rotate_left; (focus (intro w hSw; (try dsimp only at hSw); go_simp; try (with_reducible rfl))); (try simp only [Act.put, List.getElem_toArray, List.getElem_cons_succ, List.getElem_cons_zero, List.setIfInBounds_toArray, List.set_cons_zero, List.set_cons_succ]))
  (refine wpAnyH_take (i := 2) (v := ?_) rfl (by kernel_rfl) (by kernel_rfl) (by kernel_rfl) (fun _ _ _ h => h) (Or.inl ⟨by rfl, ?_⟩) hHeld ?_; rotate_left; (focus (intro w hSw; (try dsimp only at hSw); go_simp; try (with_reducible rfl))); (try simp only [Act.put, List.getElem_toArray, List.getElem_cons_succ, List.getElem_cons_zero, List.setIfInBounds_toArray, List.set_cons_zero, List.set_cons_succ]))
  (refine wpAnyH_take (i := 3) (v := ?_) rfl (by kernel_rfl) (by kernel_rfl) (by kernel_rfl) (fun _ _ _ h => h) (Or.inl ⟨by rfl, ?_⟩) hHeld ?_; rotate_left; (focus (intro w hSw; (try dsimp only at hSw); go_simp; try (with_reducible rfl))); (try simp only [Act.put, List.getElem_toArray, List.getElem_cons_succ, List.getElem_cons_zero, List.setIfInBounds_toArray, List.set_cons_zero, List.set_cons_succ]))
  (refine wpAnyH_take (i := 4) (v := ?_) rfl (by kernel_rfl) (by kernel_rfl) (by kernel_rfl) (fun _ _ _ h => h) (Or.inl ⟨by rfl, ?_⟩) hHeld ?_; rotate_left; (focus (intro w hSw; (try dsimp only at hSw); go_simp; try (with_reducible rfl))); (try simp only [Act.put, List.getElem_toArray, List.getElem_cons_succ, List.getElem_cons_zero, List.setIfInBounds_toArray, List.set_cons_zero, List.set_cons_succ]))
  (refine wpAnyH_take (i := 5) (v := ?_) rfl (by kernel_rfl) (by kernel_rfl) (by kernel_rfl) (fun _ _ _ h => h) (Or.inl ⟨by rfl, ?_⟩) hHeld ?_; rotate_left; (focus (intro w hSw; (try dsimp only at hSw); go_simp; try (with_reducible rfl))); (try simp only [Act.put, List.getElem_toArray, List.getElem_cons_succ, List.getElem_cons_zero, List.setIfInBounds_toArray, List.set_cons_zero, List.set_cons_succ]))
  (refine wpAnyH_take (i := 6) (v := ?_) rfl (by kernel_rfl) (by kernel_rfl) (by kernel_rfl) (fun _ _ _ h => h) (Or.inl ⟨by rfl, ?_⟩) hHeld ?_; rotate_left; (focus (intro w hSw; (try dsimp only at hSw); go_simp; try (with_reducible rfl))); (try simp only [Act.put, List.getElem_toArray, List.getElem_cons_succ, List.getElem_cons_zero, List.setIfInBounds_toArray, List.set_cons_zero, List.set_cons_succ]))
  (refine wpAnyH_take (i := 7) (v := ?_) rfl (by kernel_rfl) (by kernel_rfl) (by kernel_rfl) (fun _ _ _ h => h) (Or.inl ⟨by rfl, ?_⟩) hHeld ?_; rotate_left; (focus (intro w hSw; (try dsimp only at hSw); go_simp; try (with_reducible rfl))); (try simp only [Act.put, List.getElem_toArray, List.getElem_cons_succ, List.getElem_cons_zero, List.setIfInBounds_toArray, List.set_cons_zero, List.set_cons_succ]))
  refine wpAnyH_ready (rs := [8]) (by kernel_rfl) (by simp) (AllReadyH.cons rfl (fun K hK => ?_) AllReadyH.nil)
  go_simp
  refine (vint_any 7 _).mono ?_
  rintro e w8 ⟨rfl, hb8⟩
  unfold aggV intV
  refine hK.out _ _ (HK.out _ (by (repeat' (first | exact Below.refl _ _ | assumption | refine b_alloc ?_ _ | refine b_over ?_ _ | refine b_drew ?_ | refine b_call ?_ (by assumption))))) (fun hHeld => ?_)
  clear hK K
  (try simp only [Act.put, List.getElem_toArray, List.getElem_cons_succ, List.getElem_cons_zero, List.setIfInBounds_toArray, List.set_cons_zero, List.set_cons_succ])
  (refine wpAnyH_take (i := 9) (v := ?_) rfl (by kernel_rfl) (by kernel_rfl) (by kernel_rfl) (fun _ _ _ h => h) (Or.inl ⟨by rfl, ?_⟩) hHeld ?_; rotate_left; (focus (intro w hSw; (try dsimp only at hSw); go_simp; try (with_reducible rfl))); (try simp only [Act.put, List.getElem_toArray, List.getElem_cons_succ, List.getElem_cons_zero, List.setIfInBounds_toArray, List.set_cons_zero, List.set_cons_succ]))
  (refine wpAnyH_take (i := 10) (v := ?_) rfl (by kernel_rfl) (by kernel_rfl) (by kernel_rfl) (fun _ _ _ h => h) (Or.inl ⟨by rfl, ?_⟩) hHeld ?_; rotate_left; (focus (intro w hSw; (try dsimp only at hSw); go_simp; try (with_reducible rfl))); (try simp only [Act.put, List.getElem_toArray, List.getElem_cons_succ, List.getElem_cons_zero, List.setIfInBounds_toArray, List.set_cons_zero, List.set_cons_succ]))
  (refine wpAnyH_take (i := 11) (v := ?_) rfl (by kernel_rfl) (by kernel_rfl) (by kernel_rfl) (fun _ _ _ h => h) (Or.inl ⟨by rfl, ?_⟩) hHeld ?_; rotate_left; (focus (intro w hSw; (try dsimp only at hSw); go_simp; try (with_reducible rfl))); (try simp only [Act.put, List.getElem_toArray, List.getElem_cons_succ, List.getElem_cons_zero, List.setIfInBounds_toArray, List.set_cons_zero, List.set_cons_succ]))
  (refine wpAnyH_take (i := 12) (v := ?_) rfl (by kernel_rfl) (by kernel_rfl) (by kernel_rfl) (fun _ _ _ h => h) (Or.inl ⟨by rfl, ?_⟩) hHeld ?_; rotate_left; (focus (intro w hSw; (try dsimp only at hSw); go_simp; try (with_reducible rfl))); (try simp only [Act.put, List.getElem_toArray, List.getElem_cons_succ, List.getElem_cons_zero, List.setIfInBounds_toArray, List.set_cons_zero, List.set_cons_succ]))
  refine wpAnyH_ready (rs := [13]) (by kernel_rfl) (by simp) (AllReadyH.cons rfl (fun K hK => ?_) AllReadyH.nil)
  go_simp
  refine (flen_any (frs_below HF6.out (b_call (b_drew (Below.refl _ _)) hb8))).mono ?_
  rintro e w9 ⟨rfl, rfl⟩
  refine hK.out _ _ (HK.out _ (by (repeat' (first | exact Below.refl _ _ | assumption | refine b_alloc ?_ _ | refine b_over ?_ _ | refine b_drew ?_ | refine b_call ?_ (by assumption))))) (fun hHeld => ?_)
  clear hK K
  (try simp only [Act.put, List.getElem_toArray, List.getElem_cons_succ, List.getElem_cons_zero, List.setIfInBounds_toArray, List.set_cons_zero, List.set_cons_succ])
  (refine wpAnyH_take (i := 14) (v := ?_) rfl (by kernel_rfl) (by kernel_rfl) (by kernel_rfl) (fun _ _ _ h => h) (Or.inl ⟨by rfl, ?_⟩) hHeld ?_; rotate_left; (focus (intro w hSw; (try dsimp only at hSw); go_simp; try (with_reducible rfl))); (try simp only [Act.put, List.getElem_toArray, List.getElem_cons_succ, List.getElem_cons_zero, List.setIfInBounds_toArray, List.set_cons_zero, List.set_cons_succ]))
  (refine wpAnyH_take (i := 15) (v := ?_) rfl (by kernel_rfl) (by kernel_rfl) (by kernel_rfl) (fun _ _ _ h => h) (Or.inl ⟨by rfl, ?_⟩) hHeld ?_; rotate_left; (focus (intro w hSw; (try dsimp only at hSw); go_simp; try (with_reducible rfl))); (try simp only [Act.put, List.getElem_toArray, List.getElem_cons_succ, List.getElem_cons_zero, List.setIfInBounds_toArray, List.set_cons_zero, List.set_cons_succ]))
  (refine wpAnyH_take (i := 16) (v := ?_) rfl (by kernel_rfl) (by kernel_rfl) (by kernel_rfl) (fun _ _ _ h => h) (Or.inl ⟨by rfl, ?_⟩) hHeld ?_; rotate_left; (focus (intro w hSw; (try dsimp only at hSw); go_simp; try (with_reducible rfl))); (try simp only [Act.put, List.getElem_toArray, List.getElem_cons_succ, List.getElem_cons_zero, List.setIfInBounds_toArray, List.set_cons_zero, List.set_cons_succ]))
  refine wpAnyH_done (by kernel_rfl) ?_ _
  go_wp2_with fail
  go_ret
  have hlast := (frs_below HF6.out (b_call (b_drew (Below.refl _ _)) hb8)).be
  exact ⟨rfl, b_call HB.out hlast⟩
end Go.Proofs.Ytdmidnmciaediaa
