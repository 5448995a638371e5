/- ValueBinary, walked. Conditions: the numbers are of their kinds. -/
import Derived.Test.YtgiegfgoglhnoaaVal8
import Derived.Laws.BitsLemmas
import Derived.Deep.DeepCutAuto
import Derived.Deep.CutBlock
namespace Go.Proofs.Ytgiegfgoglhnoaa
open Go.RowKit
set_option linter.unusedVariables false
set_option linter.unusedSimpArgs false
set_option maxHeartbeats 8000000 in
theorem valueBinary_any (op ka A kb B : Int) (w : World) (hA : 0 ≤ A ∧ A ≤ 18446744073709551615) (hB : 0 ≤ B ∧ B ≤ 18446744073709551615) : Calls Try.prog 3 #[.int .i64 op, .agg #[.int .i64 ka, .int .u64 A], .agg #[.int .i64 kb, .int .u64 B]] w fun e w' => e = .returned (.bool true) ∧ Below w.heap.size w w' := by
  have uA : U64 A := ⟨hA.1, by omega⟩
  have uB : U64 B := ⟨hB.1, by omega⟩
  have HO := Lib.hid (fun w => binary_any op ka A kb B w uA uB)
  have HR := Lib.hid (fun w => rbinary_any op ka A kb B w uA uB)
  have hT : (decide (0 ≤ takesO op) = true ∧ ((if takesO op = 1 then (1 : Int) else 0) = takesO op)) ∨ (decide (0 ≤ takesO op) = false ∧ (if takesO op = 1 then (1 : Int) else 0) = 0 ∧ givesO op = 0 ∧ takesO op = -1) := by
    rcases takes_cases op with ht | ⟨ht, _, _⟩ | ⟨ht, _, _⟩
    · refine Or.inr ⟨by rw [ht]; rfl, by rw [ht]; rfl, ?_, ht⟩
      unfold givesO; rw [ht]; rfl
    · exact Or.inl ⟨by rw [ht]; rfl, by rw [ht]; rfl⟩
    · exact Or.inl ⟨by rw [ht]; rfl, by rw [ht]; rfl⟩
  unfold retBin at HO HR
  generalize (binO op ka A kb B).1 = rk at HO HR
  generalize (binO op ka A kb B).2.1 = rb at HO HR
  generalize (binO op ka A kb B).2.2 = rt at HO HR
  clear hA hB uA uB
  have X1 := blk_alloc (blk_new w #[.int .i64 ka, .int .u64 A] 24) (.cells #[.int .i64 kb, .int .u64 B] 24)
  have X2 := blk_new (w.alloc (.cells #[.int .i64 ka, .int .u64 A] 24)) #[.int .i64 kb, .int .u64 B] 24
  rw [show (w.alloc (.cells #[.int .i64 ka, .int .u64 A] 24)).heap.size = w.heap.size + 1 by simp] at X2
  have hW2 : Below w.heap.size w ((w.alloc (.cells #[.int .i64 ka, .int .u64 A] 24)).alloc (.cells #[.int .i64 kb, .int .u64 B] 24)) := b_alloc (b_alloc (Below.refl _ _) _) _
  have H7 : Hid (∀ w', Below ((w.alloc (.cells #[.int .i64 ka, .int .u64 A] 24)).alloc (.cells #[.int .i64 kb, .int .u64 B] 24)).heap.size ((w.alloc (.cells #[.int .i64 ka, .int .u64 A] 24)).alloc (.cells #[.int .i64 kb, .int .u64 B] 24)) w' → (w'.cell? ⟨w.heap.size, 0, none⟩ = some (.int .i64 ka) ∧ w'.cell? ⟨w.heap.size, 1, none⟩ = some (.int .u64 A) ∧ w'.cell? ⟨w.heap.size + 1, 0, none⟩ = some (.int .i64 kb) ∧ w'.cell? ⟨w.heap.size + 1, 1, none⟩ = some (.int .u64 B))) := Lib.hid (fun w' hb => by
    obtain ⟨p0, p1, _⟩ := blk2 (blk_below X1 hb)
    obtain ⟨q0, q1, _⟩ := blk2 (blk_below X2 hb)
    exact ⟨p0, p1, q0, q1⟩)
  clear X1 X2
  have X3 := blk_new ((w.alloc (.cells #[.int .i64 ka, .int .u64 A] 24)).alloc (.cells #[.int .i64 kb, .int .u64 B] 24)) #[.int .i64 0, .int .u64 0] 25
  rw [show ((w.alloc (.cells #[.int .i64 ka, .int .u64 A] 24)).alloc (.cells #[.int .i64 kb, .int .u64 B] 24)).heap.size = w.heap.size + 1 + 1 by simp] at X3
  go_enter Try.func3, Try.ntmps3
  go_upto_region 1 with fail
  go_cut [7, 8] (fun s7 s8 wx => ∃ g : Nat, s7 = .pointer (some ⟨g, 0, none⟩) ∧ s8 = .int .i64 rt ∧ Blk wx g [.int .i64 rk, .int .u64 rb] ∧ Below ((w.alloc (.cells #[.int .i64 ka, .int .u64 A] 24)).alloc (.cells #[.int .i64 kb, .int .u64 B] 24)).heap.size ((w.alloc (.cells #[.int .i64 ka, .int .u64 A] 24)).alloc (.cells #[.int .i64 kb, .int .u64 B] 24)) wx)
  case first =>
    refine wp_region_held_drew (S := fun w' => w'.cell? ⟨w.heap.size, 0, none⟩ = some (.int .i64 ka) ∧ w'.cell? ⟨w.heap.size, 1, none⟩ = some (.int .u64 A) ∧ w'.cell? ⟨w.heap.size + 1, 0, none⟩ = some (.int .i64 kb) ∧ w'.cell? ⟨w.heap.size + 1, 1, none⟩ = some (.int .u64 B)) (by kernel_rfl) (H7.out _ (b_drew (Below.refl _ _))) (fun hHeld => ?_)
    (refine wpAnyH_take (i := 0) (v := ?_) rfl (by kernel_rfl) (by kernel_rfl) (by kernel_rfl) (fun _ _ _ h => h) (Or.inl ⟨by rfl, ?_⟩) hHeld ?_; rotate_left; (focus (intro w hSw; (try dsimp only at hSw); go_simp; try (with_reducible rfl))); (try simp only [Act.put, List.getElem_toArray, List.getElem_cons_succ, List.getElem_cons_zero, List.setIfInBounds_toArray, List.set_cons_zero, List.set_cons_succ]))
    (refine wpAnyH_take (i := 1) (v := ?_) rfl (by kernel_rfl) (by kernel_rfl) (by kernel_rfl) (fun _ _ _ h => h) (Or.inl ⟨by rfl, ?_⟩) hHeld ?_; rotate_left; (focus (intro w hSw; (try dsimp only at hSw); go_simp; try (with_reducible rfl))); (try simp only [Act.put, List.getElem_toArray, List.getElem_cons_succ, List.getElem_cons_zero, List.setIfInBounds_toArray, List.set_cons_zero, List.set_cons_succ]))
    (refine wpAnyH_take (i := 3) (v := ?_) rfl (by kernel_rfl) (by kernel_rfl) (by kernel_rfl) (fun _ _ _ h => h) (Or.inl ⟨by rfl, ?_⟩) hHeld ?_; rotate_left; (focus (intro w hSw; (try dsimp only at hSw); go_simp; try (with_reducible rfl))); (try simp only [Act.put, List.getElem_toArray, List.getElem_cons_succ, List.getElem_cons_zero, List.setIfInBounds_toArray, List.set_cons_zero, List.set_cons_succ]))
    refine wpAnyH_ready (rs := [2, 9]) (by kernel_rfl) (by simp) (AllReadyH.cons rfl (fun K hK => ?_) (AllReadyH.cons rfl (fun K hK => ?_) AllReadyH.nil))
    · go_simp
      refine (ours23_any _ _ _).mono ?_
      unfold valV
      rintro e w5 ⟨rfl, hb5⟩
      have z5 := hb5.size
      (try simp only [World.size_alloc, World.size_drew] at z5)
      refine hK.out _ _ (H7.out _ (by (repeat' (first | exact Below.refl _ _ | assumption | refine b_set ?_ (by simp only [World.size_alloc]; omega) _ | refine b_alloc ?_ _ | refine b_drew ?_ | refine b_call ?_ (by assumption))))) (fun hHeld => ?_)
      clear hK K
      (try simp only [Act.put, List.getElem_toArray, List.getElem_cons_succ, List.getElem_cons_zero, List.setIfInBounds_toArray, List.set_cons_zero, List.set_cons_succ])
      refine wpAnyH_ready (rs := [4, 9]) (by kernel_rfl) (by simp) (AllReadyH.cons rfl (fun K hK => ?_) (AllReadyH.cons rfl (fun K hK => ?_) AllReadyH.nil))
      · go_simp
        refine (ours23_any _ _ _).mono ?_
        unfold valV
        rintro e w6 ⟨rfl, hb6⟩
        have z6 := hb6.size
        (try simp only [World.size_alloc, World.size_drew] at z6)
        refine hK.out _ _ (H7.out _ (by (repeat' (first | exact Below.refl _ _ | assumption | refine b_set ?_ (by simp only [World.size_alloc]; omega) _ | refine b_alloc ?_ _ | refine b_drew ?_ | refine b_call ?_ (by assumption))))) (fun hHeld => ?_)
        clear hK K
        (try simp only [Act.put, List.getElem_toArray, List.getElem_cons_succ, List.getElem_cons_zero, List.setIfInBounds_toArray, List.set_cons_zero, List.set_cons_succ])
        refine wpAnyH_ready (rs := [5, 9]) (by kernel_rfl) (by simp) (AllReadyH.cons rfl (fun K hK => ?_) (AllReadyH.cons rfl (fun K hK => ?_) AllReadyH.nil))
        · go_simp
          refine (HO.out _).mono ?_
          unfold valV
          rintro e w7 ⟨rfl, hb7⟩
          have z7 := hb7.size
          (try simp only [World.size_alloc, World.size_drew] at z7)
          refine hK.out _ _ (H7.out _ (by (repeat' (first | exact Below.refl _ _ | assumption | refine b_set ?_ (by simp only [World.size_alloc]; omega) _ | refine b_alloc ?_ _ | refine b_drew ?_ | refine b_call ?_ (by assumption))))) (fun hHeld => ?_)
          clear hK K
          (try simp only [Act.put, List.getElem_toArray, List.getElem_cons_succ, List.getElem_cons_zero, List.setIfInBounds_toArray, List.set_cons_zero, List.set_cons_succ])
          (refine wpAnyH_take (i := 6) (v := ?_) rfl (by kernel_rfl) (by kernel_rfl) (by kernel_rfl) (fun _ _ _ h => h) (Or.inl ⟨by rfl, ?_⟩) hHeld ?_; rotate_left; (focus (intro w hSw; (try dsimp only at hSw); go_simp; try (with_reducible rfl))); (try simp only [Act.put, List.getElem_toArray, List.getElem_cons_succ, List.getElem_cons_zero, List.setIfInBounds_toArray, List.set_cons_zero, List.set_cons_succ]))
          (refine wpAnyH_take (i := 7) (v := ?_) rfl (by kernel_rfl) (by kernel_rfl) (by kernel_rfl) (fun _ _ _ h => h) (Or.inl ⟨by rfl, ?_⟩) hHeld ?_; rotate_left; (focus (intro w hSw; (try dsimp only at hSw); go_simp; try (with_reducible rfl))); (try simp only [Act.put, List.getElem_toArray, List.getElem_cons_succ, List.getElem_cons_zero, List.setIfInBounds_toArray, List.set_cons_zero, List.set_cons_succ]))
          (refine wpAnyH_take (i := 8) (v := ?_) rfl (by kernel_rfl) (by kernel_rfl) (by kernel_rfl) (fun _ _ _ h => h) (Or.inl ⟨by rfl, ?_⟩) hHeld ?_; rotate_left; (focus (intro w hSw; (try dsimp only at hSw); go_simp; try (with_reducible rfl))); (try simp only [Act.put, List.getElem_toArray, List.getElem_cons_succ, List.getElem_cons_zero, List.setIfInBounds_toArray, List.set_cons_zero, List.set_cons_succ]))
          refine wpAnyH_ready (rs := [9]) (by kernel_rfl) (by simp) (AllReadyH.cons rfl (fun K hK => ?_) AllReadyH.nil)
          go_simp
          refine hK.out _ _ (H7.out _ (by (repeat' (first | exact Below.refl _ _ | assumption | refine b_set ?_ (by simp only [World.size_alloc]; omega) _ | refine b_alloc ?_ _ | refine b_drew ?_ | refine b_call ?_ (by assumption))))) (fun hHeld => ?_)
          clear hK K
          (try simp only [Act.put, List.getElem_toArray, List.getElem_cons_succ, List.getElem_cons_zero, List.setIfInBounds_toArray, List.set_cons_zero, List.set_cons_succ])
          refine wpAnyH_ready (rs := [10]) (by kernel_rfl) (by simp) (AllReadyH.cons rfl (fun K hK => ?_) AllReadyH.nil)
          go_simp
          refine hK.out _ _ (H7.out _ (by (repeat' (first | exact Below.refl _ _ | assumption | refine b_set ?_ (by simp only [World.size_alloc]; omega) _ | refine b_alloc ?_ _ | refine b_drew ?_ | refine b_call ?_ (by assumption))))) (fun hHeld => ?_)
          clear hK K
          (try simp only [Act.put, List.getElem_toArray, List.getElem_cons_succ, List.getElem_cons_zero, List.setIfInBounds_toArray, List.set_cons_zero, List.set_cons_succ])
          (refine wpAnyH_take (i := 11) (v := ?_) rfl (by kernel_rfl) (by kernel_rfl) (by kernel_rfl) (fun _ _ _ h => h) (Or.inl ⟨by rfl, ?_⟩) hHeld ?_; rotate_left; (focus (intro w hSw; (try dsimp only at hSw); go_simp; try (with_reducible rfl))); (try simp only [Act.put, List.getElem_toArray, List.getElem_cons_succ, List.getElem_cons_zero, List.setIfInBounds_toArray, List.set_cons_zero, List.set_cons_succ]))
          refine wpAnyH_done (by kernel_rfl) ?_ _
          go_wp2_with fail
          go_meet
          exact ⟨_, rfl, rfl, blk_new _ _ _, by (repeat' (first | exact Below.refl _ _ | assumption | refine b_set ?_ (by simp only [World.size_alloc]; omega) _ | refine b_alloc ?_ _ | refine b_drew ?_ | refine b_call ?_ (by assumption)))⟩
        · go_simp
          refine hK.out _ _ (H7.out _ (by (repeat' (first | exact Below.refl _ _ | assumption | refine b_set ?_ (by simp only [World.size_alloc]; omega) _ | refine b_alloc ?_ _ | refine b_drew ?_ | refine b_call ?_ (by assumption))))) (fun hHeld => ?_)
          clear hK K
          (try simp only [Act.put, List.getElem_toArray, List.getElem_cons_succ, List.getElem_cons_zero, List.setIfInBounds_toArray, List.set_cons_zero, List.set_cons_succ])
          refine wpAnyH_ready (rs := [5]) (by kernel_rfl) (by simp) (AllReadyH.cons rfl (fun K hK => ?_) AllReadyH.nil)
          go_simp
          refine (HO.out _).mono ?_
          unfold valV
          rintro e w7 ⟨rfl, hb7⟩
          have z7 := hb7.size
          (try simp only [World.size_alloc, World.size_drew] at z7)
          have F7 : Blk w7 (w6.heap.size) [.int .i64 0, .int .u64 0] := blk_born hb7
          refine hK.out _ _ (H7.out _ (by (repeat' (first | exact Below.refl _ _ | assumption | refine b_set ?_ (by simp only [World.size_alloc]; omega) _ | refine b_alloc ?_ _ | refine b_drew ?_ | refine b_call ?_ (by assumption))))) (fun hHeld => ?_)
          clear hK K
          (try simp only [Act.put, List.getElem_toArray, List.getElem_cons_succ, List.getElem_cons_zero, List.setIfInBounds_toArray, List.set_cons_zero, List.set_cons_succ])
          (refine wpAnyH_take (i := 6) (v := ?_) rfl (by kernel_rfl) (by kernel_rfl) (by kernel_rfl) (fun _ _ _ h => h) (Or.inl ⟨by rfl, ?_⟩) hHeld ?_; rotate_left; (focus (intro w hSw; (try dsimp only at hSw); go_simp; try (with_reducible rfl))); (try simp only [Act.put, List.getElem_toArray, List.getElem_cons_succ, List.getElem_cons_zero, List.setIfInBounds_toArray, List.set_cons_zero, List.set_cons_succ]))
          (refine wpAnyH_take (i := 7) (v := ?_) rfl (by kernel_rfl) (by kernel_rfl) (by kernel_rfl) (fun _ _ _ h => h) (Or.inl ⟨by rfl, ?_⟩) hHeld ?_; rotate_left; (focus (intro w hSw; (try dsimp only at hSw); go_simp; try (with_reducible rfl))); (try simp only [Act.put, List.getElem_toArray, List.getElem_cons_succ, List.getElem_cons_zero, List.setIfInBounds_toArray, List.set_cons_zero, List.set_cons_succ]))
          (refine wpAnyH_take (i := 8) (v := ?_) rfl (by kernel_rfl) (by kernel_rfl) (by kernel_rfl) (fun _ _ _ h => h) (Or.inl ⟨by rfl, ?_⟩) hHeld ?_; rotate_left; (focus (intro w hSw; (try dsimp only at hSw); go_simp; try (with_reducible rfl))); (try simp only [Act.put, List.getElem_toArray, List.getElem_cons_succ, List.getElem_cons_zero, List.setIfInBounds_toArray, List.set_cons_zero, List.set_cons_succ]))
          obtain ⟨c0, c1, cf⟩ := blk2 F7
          refine wpAnyH_ready (rs := [10]) (by kernel_rfl) (by simp) (AllReadyH.cons rfl (fun K hK => ?_) AllReadyH.nil)
          go_simp
          refine hK.out _ _ (H7.out _ (by (repeat' (first | exact Below.refl _ _ | assumption | refine b_set ?_ (by simp only [World.size_alloc]; omega) _ | refine b_alloc ?_ _ | refine b_drew ?_ | refine b_call ?_ (by assumption))))) (fun hHeld => ?_)
          clear hK K
          (try simp only [Act.put, List.getElem_toArray, List.getElem_cons_succ, List.getElem_cons_zero, List.setIfInBounds_toArray, List.set_cons_zero, List.set_cons_succ])
          (refine wpAnyH_take (i := 11) (v := ?_) rfl (by kernel_rfl) (by kernel_rfl) (by kernel_rfl) (fun _ _ _ h => h) (Or.inl ⟨by rfl, ?_⟩) hHeld ?_; rotate_left; (focus (intro w hSw; (try dsimp only at hSw); go_simp; try (with_reducible rfl))); (try simp only [Act.put, List.getElem_toArray, List.getElem_cons_succ, List.getElem_cons_zero, List.setIfInBounds_toArray, List.set_cons_zero, List.set_cons_succ]))
          refine wpAnyH_done (by kernel_rfl) ?_ _
          go_wp2_with fail
          go_meet
          exact ⟨_, rfl, rfl, blk_set (blk_set F7 0 _) 1 _, by (repeat' (first | exact Below.refl _ _ | assumption | refine b_set ?_ (by simp only [World.size_alloc]; omega) _ | refine b_alloc ?_ _ | refine b_drew ?_ | refine b_call ?_ (by assumption)))⟩
      · go_simp
        refine hK.out _ _ (H7.out _ (by (repeat' (first | exact Below.refl _ _ | assumption | refine b_set ?_ (by simp only [World.size_alloc]; omega) _ | refine b_alloc ?_ _ | refine b_drew ?_ | refine b_call ?_ (by assumption))))) (fun hHeld => ?_)
        clear hK K
        (try simp only [Act.put, List.getElem_toArray, List.getElem_cons_succ, List.getElem_cons_zero, List.setIfInBounds_toArray, List.set_cons_zero, List.set_cons_succ])
        refine wpAnyH_ready (rs := [4]) (by kernel_rfl) (by simp) (AllReadyH.cons rfl (fun K hK => ?_) AllReadyH.nil)
        go_simp
        refine (ours23_any _ _ _).mono ?_
        unfold valV
        rintro e w6 ⟨rfl, hb6⟩
        have z6 := hb6.size
        (try simp only [World.size_alloc, World.size_drew] at z6)
        have F6 : Blk w6 (w5.heap.size) [.int .i64 0, .int .u64 0] := blk_born hb6
        refine hK.out _ _ (H7.out _ (by (repeat' (first | exact Below.refl _ _ | assumption | refine b_set ?_ (by simp only [World.size_alloc]; omega) _ | refine b_alloc ?_ _ | refine b_drew ?_ | refine b_call ?_ (by assumption))))) (fun hHeld => ?_)
        clear hK K
        (try simp only [Act.put, List.getElem_toArray, List.getElem_cons_succ, List.getElem_cons_zero, List.setIfInBounds_toArray, List.set_cons_zero, List.set_cons_succ])
        refine wpAnyH_ready (rs := [5]) (by kernel_rfl) (by simp) (AllReadyH.cons rfl (fun K hK => ?_) AllReadyH.nil)
        go_simp
        refine (HO.out _).mono ?_
        unfold valV
        rintro e w7 ⟨rfl, hb7⟩
        have z7 := hb7.size
        (try simp only [World.size_alloc, World.size_drew] at z7)
        have F7 : Blk w7 (w5.heap.size) [.int .i64 0, .int .u64 0] := blk_below F6 hb7
        refine hK.out _ _ (H7.out _ (by (repeat' (first | exact Below.refl _ _ | assumption | refine b_set ?_ (by simp only [World.size_alloc]; omega) _ | refine b_alloc ?_ _ | refine b_drew ?_ | refine b_call ?_ (by assumption))))) (fun hHeld => ?_)
        clear hK K
        (try simp only [Act.put, List.getElem_toArray, List.getElem_cons_succ, List.getElem_cons_zero, List.setIfInBounds_toArray, List.set_cons_zero, List.set_cons_succ])
        (refine wpAnyH_take (i := 6) (v := ?_) rfl (by kernel_rfl) (by kernel_rfl) (by kernel_rfl) (fun _ _ _ h => h) (Or.inl ⟨by rfl, ?_⟩) hHeld ?_; rotate_left; (focus (intro w hSw; (try dsimp only at hSw); go_simp; try (with_reducible rfl))); (try simp only [Act.put, List.getElem_toArray, List.getElem_cons_succ, List.getElem_cons_zero, List.setIfInBounds_toArray, List.set_cons_zero, List.set_cons_succ]))
        (refine wpAnyH_take (i := 7) (v := ?_) rfl (by kernel_rfl) (by kernel_rfl) (by kernel_rfl) (fun _ _ _ h => h) (Or.inl ⟨by rfl, ?_⟩) hHeld ?_; rotate_left; (focus (intro w hSw; (try dsimp only at hSw); go_simp; try (with_reducible rfl))); (try simp only [Act.put, List.getElem_toArray, List.getElem_cons_succ, List.getElem_cons_zero, List.setIfInBounds_toArray, List.set_cons_zero, List.set_cons_succ]))
        (refine wpAnyH_take (i := 8) (v := ?_) rfl (by kernel_rfl) (by kernel_rfl) (by kernel_rfl) (fun _ _ _ h => h) (Or.inl ⟨by rfl, ?_⟩) hHeld ?_; rotate_left; (focus (intro w hSw; (try dsimp only at hSw); go_simp; try (with_reducible rfl))); (try simp only [Act.put, List.getElem_toArray, List.getElem_cons_succ, List.getElem_cons_zero, List.setIfInBounds_toArray, List.set_cons_zero, List.set_cons_succ]))
        obtain ⟨c0, c1, cf⟩ := blk2 F7
        refine wpAnyH_ready (rs := [10]) (by kernel_rfl) (by simp) (AllReadyH.cons rfl (fun K hK => ?_) AllReadyH.nil)
        go_simp
        refine hK.out _ _ (H7.out _ (by (repeat' (first | exact Below.refl _ _ | assumption | refine b_set ?_ (by simp only [World.size_alloc]; omega) _ | refine b_alloc ?_ _ | refine b_drew ?_ | refine b_call ?_ (by assumption))))) (fun hHeld => ?_)
        clear hK K
        (try simp only [Act.put, List.getElem_toArray, List.getElem_cons_succ, List.getElem_cons_zero, List.setIfInBounds_toArray, List.set_cons_zero, List.set_cons_succ])
        (refine wpAnyH_take (i := 11) (v := ?_) rfl (by kernel_rfl) (by kernel_rfl) (by kernel_rfl) (fun _ _ _ h => h) (Or.inl ⟨by rfl, ?_⟩) hHeld ?_; rotate_left; (focus (intro w hSw; (try dsimp only at hSw); go_simp; try (with_reducible rfl))); (try simp only [Act.put, List.getElem_toArray, List.getElem_cons_succ, List.getElem_cons_zero, List.setIfInBounds_toArray, List.set_cons_zero, List.set_cons_succ]))
        refine wpAnyH_done (by kernel_rfl) ?_ _
        go_wp2_with fail
        go_meet
        exact ⟨_, rfl, rfl, blk_set (blk_set F7 0 _) 1 _, by (repeat' (first | exact Below.refl _ _ | assumption | refine b_set ?_ (by simp only [World.size_alloc]; omega) _ | refine b_alloc ?_ _ | refine b_drew ?_ | refine b_call ?_ (by assumption)))⟩
    · go_simp
      refine hK.out _ _ (H7.out _ (by (repeat' (first | exact Below.refl _ _ | assumption | refine b_set ?_ (by simp only [World.size_alloc]; omega) _ | refine b_alloc ?_ _ | refine b_drew ?_ | refine b_call ?_ (by assumption))))) (fun hHeld => ?_)
      clear hK K
      (try simp only [Act.put, List.getElem_toArray, List.getElem_cons_succ, List.getElem_cons_zero, List.setIfInBounds_toArray, List.set_cons_zero, List.set_cons_succ])
      refine wpAnyH_ready (rs := [2]) (by kernel_rfl) (by simp) (AllReadyH.cons rfl (fun K hK => ?_) AllReadyH.nil)
      go_simp
      refine (ours23_any _ _ _).mono ?_
      unfold valV
      rintro e w5 ⟨rfl, hb5⟩
      have z5 := hb5.size
      (try simp only [World.size_alloc, World.size_drew] at z5)
      have F5 : Blk w5 (w.heap.size + 1 + 1) [.int .i64 0, .int .u64 0] := by first | exact blk_below (blk_drew X3) hb5 | exact blk_below X3 hb5
      refine hK.out _ _ (H7.out _ (by (repeat' (first | exact Below.refl _ _ | assumption | refine b_set ?_ (by simp only [World.size_alloc]; omega) _ | refine b_alloc ?_ _ | refine b_drew ?_ | refine b_call ?_ (by assumption))))) (fun hHeld => ?_)
      clear hK K
      (try simp only [Act.put, List.getElem_toArray, List.getElem_cons_succ, List.getElem_cons_zero, List.setIfInBounds_toArray, List.set_cons_zero, List.set_cons_succ])
      refine wpAnyH_ready (rs := [4]) (by kernel_rfl) (by simp) (AllReadyH.cons rfl (fun K hK => ?_) AllReadyH.nil)
      go_simp
      refine (ours23_any _ _ _).mono ?_
      unfold valV
      rintro e w6 ⟨rfl, hb6⟩
      have z6 := hb6.size
      (try simp only [World.size_alloc, World.size_drew] at z6)
      have F6 : Blk w6 (w.heap.size + 1 + 1) [.int .i64 0, .int .u64 0] := blk_below F5 hb6
      refine hK.out _ _ (H7.out _ (by (repeat' (first | exact Below.refl _ _ | assumption | refine b_set ?_ (by simp only [World.size_alloc]; omega) _ | refine b_alloc ?_ _ | refine b_drew ?_ | refine b_call ?_ (by assumption))))) (fun hHeld => ?_)
      clear hK K
      (try simp only [Act.put, List.getElem_toArray, List.getElem_cons_succ, List.getElem_cons_zero, List.setIfInBounds_toArray, List.set_cons_zero, List.set_cons_succ])
      refine wpAnyH_ready (rs := [5]) (by kernel_rfl) (by simp) (AllReadyH.cons rfl (fun K hK => ?_) AllReadyH.nil)
      go_simp
      refine (HO.out _).mono ?_
      unfold valV
      rintro e w7 ⟨rfl, hb7⟩
      have z7 := hb7.size
      (try simp only [World.size_alloc, World.size_drew] at z7)
      have F7 : Blk w7 (w.heap.size + 1 + 1) [.int .i64 0, .int .u64 0] := blk_below F6 hb7
      refine hK.out _ _ (H7.out _ (by (repeat' (first | exact Below.refl _ _ | assumption | refine b_set ?_ (by simp only [World.size_alloc]; omega) _ | refine b_alloc ?_ _ | refine b_drew ?_ | refine b_call ?_ (by assumption))))) (fun hHeld => ?_)
      clear hK K
      (try simp only [Act.put, List.getElem_toArray, List.getElem_cons_succ, List.getElem_cons_zero, List.setIfInBounds_toArray, List.set_cons_zero, List.set_cons_succ])
      (refine wpAnyH_take (i := 6) (v := ?_) rfl (by kernel_rfl) (by kernel_rfl) (by kernel_rfl) (fun _ _ _ h => h) (Or.inl ⟨by rfl, ?_⟩) hHeld ?_; rotate_left; (focus (intro w hSw; (try dsimp only at hSw); go_simp; try (with_reducible rfl))); (try simp only [Act.put, List.getElem_toArray, List.getElem_cons_succ, List.getElem_cons_zero, List.setIfInBounds_toArray, List.set_cons_zero, List.set_cons_succ]))
      (refine wpAnyH_take (i := 7) (v := ?_) rfl (by kernel_rfl) (by kernel_rfl) (by kernel_rfl) (fun _ _ _ h => h) (Or.inl ⟨by rfl, ?_⟩) hHeld ?_; rotate_left; (focus (intro w hSw; (try dsimp only at hSw); go_simp; try (with_reducible rfl))); (try simp only [Act.put, List.getElem_toArray, List.getElem_cons_succ, List.getElem_cons_zero, List.setIfInBounds_toArray, List.set_cons_zero, List.set_cons_succ]))
      (refine wpAnyH_take (i := 8) (v := ?_) rfl (by kernel_rfl) (by kernel_rfl) (by kernel_rfl) (fun _ _ _ h => h) (Or.inl ⟨by rfl, ?_⟩) hHeld ?_; rotate_left; (focus (intro w hSw; (try dsimp only at hSw); go_simp; try (with_reducible rfl))); (try simp only [Act.put, List.getElem_toArray, List.getElem_cons_succ, List.getElem_cons_zero, List.setIfInBounds_toArray, List.set_cons_zero, List.set_cons_succ]))
      obtain ⟨c0, c1, cf⟩ := blk2 F7
      refine wpAnyH_ready (rs := [10]) (by kernel_rfl) (by simp) (AllReadyH.cons rfl (fun K hK => ?_) AllReadyH.nil)
      go_simp
      refine hK.out _ _ (H7.out _ (by (repeat' (first | exact Below.refl _ _ | assumption | refine b_set ?_ (by simp only [World.size_alloc]; omega) _ | refine b_alloc ?_ _ | refine b_drew ?_ | refine b_call ?_ (by assumption))))) (fun hHeld => ?_)
      clear hK K
      (try simp only [Act.put, List.getElem_toArray, List.getElem_cons_succ, List.getElem_cons_zero, List.setIfInBounds_toArray, List.set_cons_zero, List.set_cons_succ])
      (refine wpAnyH_take (i := 11) (v := ?_) rfl (by kernel_rfl) (by kernel_rfl) (by kernel_rfl) (fun _ _ _ h => h) (Or.inl ⟨by rfl, ?_⟩) hHeld ?_; rotate_left; (focus (intro w hSw; (try dsimp only at hSw); go_simp; try (with_reducible rfl))); (try simp only [Act.put, List.getElem_toArray, List.getElem_cons_succ, List.getElem_cons_zero, List.setIfInBounds_toArray, List.set_cons_zero, List.set_cons_succ]))
      refine wpAnyH_done (by kernel_rfl) ?_ _
      go_wp2_with fail
      go_meet
      exact ⟨_, rfl, rfl, blk_set (blk_set F7 0 _) 1 _, by (repeat' (first | exact Below.refl _ _ | assumption | refine b_set ?_ (by simp only [World.size_alloc]; omega) _ | refine b_alloc ?_ _ | refine b_drew ?_ | refine b_call ?_ (by assumption)))⟩
  case rest =>
    obtain ⟨g, rfl, rfl, FB, hB⟩ := hcut
    obtain ⟨p0, p1, q0, q1⟩ := H7.out _ hB
    go_wp2_with fail
    refine (HR.out _).mono ?_
    unfold valV
    rintro e w2 ⟨rfl, hb2⟩
    have F2 := blk_alloc (blk_below FB hb2) (.cells #[.int .i64 rk, .int .u64 rb] 24)
    have N2 := blk_new w2 #[.int .i64 rk, .int .u64 rb] 24
    have H8 : Hid (∀ w', Below (w2.alloc (.cells #[.int .i64 rk, .int .u64 rb] 24)).heap.size (w2.alloc (.cells #[.int .i64 rk, .int .u64 rb] 24)) w' → (w'.cell? ⟨g, 0, none⟩ = some (.int .i64 rk) ∧ w'.cell? ⟨g, 1, none⟩ = some (.int .u64 rb) ∧ w'.cell? ⟨w2.heap.size, 0, none⟩ = some (.int .i64 rk) ∧ w'.cell? ⟨w2.heap.size, 1, none⟩ = some (.int .u64 rb))) := Lib.hid (fun w' hb => by
      obtain ⟨p0, p1, _⟩ := blk2 (blk_below F2 hb)
      obtain ⟨q0, q1, _⟩ := blk2 (blk_below N2 hb)
      exact ⟨p0, p1, q0, q1⟩)
    clear p0 p1 q0 q1
    clear F2 N2 FB
    go_wp2_with fail
    refine (bkinds_any _ _).mono ?_
    rintro e w3 ⟨rfl, rfl⟩
    rcases hT with ⟨t1, t2⟩ | ⟨t1, t2, t3, t4⟩
    · rw [t2, t1]
      clear t2
      go_wp2_with fail
      refine (takes_any _ _).mono ?_
      rintro e w3 ⟨rfl, rfl⟩
      go_wp2_with fail
      refine (gives_any _ _).mono ?_
      rintro e w3 ⟨rfl, rfl⟩
      go_upto_region 7 with fail
      go_region_held3 (fun w' => w'.cell? ⟨g, 0, none⟩ = some (.int .i64 rk) ∧ w'.cell? ⟨g, 1, none⟩ = some (.int .u64 rb) ∧ w'.cell? ⟨w2.heap.size, 0, none⟩ = some (.int .i64 rk) ∧ w'.cell? ⟨w2.heap.size, 1, none⟩ = some (.int .u64 rb))
        ((exact H8.out _ (by (repeat' (first | exact Below.refl _ _ | assumption | refine b_alloc ?_ _ | refine b_over ?_ _ | refine b_drew ?_ | refine b_call ?_ (by assumption))))))
        ((first
          | (go_at_call 11; refine (ours23_any _ _ _).mono ?_; unfold valV; rintro e w9 ⟨rfl, hb9⟩)
          | (go_at_call 16; refine (awake23 _).mono ?_; rintro e w10 ⟨rfl, hb10⟩)))
      go_wp2
      go_ret
      exact ⟨rfl, b_call hW2 (b_call (b_alloc (b_call hB hb2) _) (by (repeat' (first | exact Below.refl _ _ | assumption | refine b_alloc ?_ _ | refine b_over ?_ _ | refine b_drew ?_ | refine b_call ?_ (by assumption)))))⟩
    · rw [t2, t3, t1]
      have T4 := Lib.hid t4
      clear t2 t3 t4
      go_wp2_with fail
      refine (takes_any _ _).mono ?_
      rintro e w3 ⟨rfl, rfl⟩
      rw [T4.out]
      go_upto_region 7 with fail
      go_region_held3 (fun w' => w'.cell? ⟨g, 0, none⟩ = some (.int .i64 rk) ∧ w'.cell? ⟨g, 1, none⟩ = some (.int .u64 rb) ∧ w'.cell? ⟨w2.heap.size, 0, none⟩ = some (.int .i64 rk) ∧ w'.cell? ⟨w2.heap.size, 1, none⟩ = some (.int .u64 rb))
        ((exact H8.out _ (by (repeat' (first | exact Below.refl _ _ | assumption | refine b_alloc ?_ _ | refine b_over ?_ _ | refine b_drew ?_ | refine b_call ?_ (by assumption))))))
        ((first
          | (go_at_call 11; refine (ours23_any _ _ _).mono ?_; unfold valV; rintro e w9 ⟨rfl, hb9⟩)
          | (go_at_call 16; refine (awake23 _).mono ?_; rintro e w10 ⟨rfl, hb10⟩)))
      go_wp2
      go_ret
      exact ⟨rfl, b_call hW2 (b_call (b_alloc (b_call hB hb2) _) (by (repeat' (first | exact Below.refl _ _ | assumption | refine b_alloc ?_ _ | refine b_over ?_ _ | refine b_drew ?_ | refine b_call ?_ (by assumption)))))⟩
end Go.Proofs.Ytgiegfgoglhnoaa
