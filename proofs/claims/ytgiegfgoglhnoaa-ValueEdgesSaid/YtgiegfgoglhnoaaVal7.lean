/- Layer 23: what two values make by an operation: ours and the document's. Conditions: words have 64 bits. -/
import Derived.Test.YtgiegfgoglhnoaaVal6
import Derived.Deep.RegionHeld3
namespace Go.Proofs.Ytgiegfgoglhnoaa
open Go.RowKit
set_option linter.unusedVariables false
set_option linter.unusedSimpArgs false
/-- The kind, the bits and the trap of a binary operation. -/
def binO (op ka A kb B : Int) : Int × Int × Int :=
  if takesO op < 0 ∨ ka ≠ takesO op ∨ kb ≠ takesO op then (0, 0, 1)
  else if takesO op = 0 then (if intBad op B = true then (0, 0, 2) else (0, intO op A B, 0))
  else (givesO op, (floO op (canon A.toNat) (canon B.toNat) : Nat), 0)
def retBin (r : Int × Int × Int) : Value := .tuple #[valV r.1 r.2.1, .int .i64 r.2.2]
theorem takes_cases (op : Int) : takesO op = -1 ∨ (takesO op = 0 ∧ 0 ≤ op ∧ op < 12) ∨ (takesO op = 1 ∧ 12 ≤ op ∧ op ≤ 19) := by
  unfold takesO
  by_cases h : op < 0 ∨ 19 < op
  · rw [if_pos h]; exact Or.inl rfl
  · rw [if_neg h]
    by_cases h2 : op < 12
    · rw [if_pos h2]; exact Or.inr (Or.inl ⟨rfl, by omega, h2⟩)
    · rw [if_neg h2]; exact Or.inr (Or.inr ⟨rfl, by omega, by omega⟩)
theorem bin_trap {op ka A kb B : Int} (h : takesO op < 0 ∨ ka ≠ takesO op ∨ kb ≠ takesO op) : retBin (binO op ka A kb B) = .tuple #[valV 0 0, .int .i64 1] := by
  unfold binO; rw [if_pos h]; rfl
theorem bin_int {op A B : Int} (h : takesO op = 0) : retBin (binO op 0 A 0 B) = .tuple #[valV 0 (if intBad op B = true then 0 else intO op A B), .int .i64 (if intBad op B = true then 2 else 0)] := by
  unfold binO
  rw [h, if_neg (by simp), if_pos rfl]
  cases intBad op B <;> rfl
theorem bin_flo {op : Int} {a b : Nat} (h : takesO op = 1) : retBin (binO op 1 (a : Nat) 1 (b : Nat)) = .tuple #[valV (givesO op) (floO op (canon a) (canon b) : Nat), .int .i64 0] := by
  unfold binO
  rw [h, if_neg (by simp), if_neg (by decide), Int.toNat_natCast, Int.toNat_natCast]; rfl
set_option maxHeartbeats 4000000 in
theorem binary_any (op ka A kb B : Int) (w : World) (hA : U64 A) (hB : U64 B) : Calls Try.prog 10 #[.int .i64 op, valV ka A, valV kb B] w fun e w' => e = .returned (retBin (binO op ka A kb B)) ∧ Below w.heap.size w w' := by
  rcases takes_cases op with ht | ⟨ht, o1, o2⟩ | ⟨ht, o1, o2⟩
  · have HT := Lib.hid ht
    rw [bin_trap (Or.inl (by omega))]
    unfold valV
    clear ht hA hB
    go_enter Try.func10, Try.ntmps10
    go_wp2_with fail
    refine (bkinds_any _ _).mono ?_
    rintro e w1 ⟨rfl, rfl⟩
    rw [HT.out, if_neg (by decide), show decide ((0 : Int) ≤ -1) = false from rfl]
    go_wp2_with fail
    exact bodyPost_ret (v := .tuple #[valV 0 0, .int .i64 1]) (by simp [results, Try.results10, go_sem, valV]) rfl ⟨rfl, by (repeat' (first | exact Below.refl _ _ | assumption | refine b_alloc ?_ _ | refine b_over ?_ _ | refine b_drew ?_ | refine b_call ?_ (by assumption)))⟩
  · have HT := Lib.hid ht
    rcases (show ka ≠ 0 ∨ (ka = 0 ∧ kb ≠ 0) ∨ (ka = 0 ∧ kb = 0) by omega) with hk | ⟨rfl, hk⟩ | ⟨rfl, rfl⟩
    · have t1 : (ka != 0) = true := by rw [bne_iff_ne]; exact hk
      rw [bin_trap (Or.inr (Or.inl (by rw [ht]; exact hk)))]
      unfold valV
      clear ht hA hB hk
      go_enter Try.func10, Try.ntmps10
      go_wp2_with fail
      refine (bkinds_any _ _).mono ?_
      rintro e w1 ⟨rfl, rfl⟩
      rw [HT.out, if_neg (by decide), show decide ((0 : Int) ≤ 0) = true from rfl]
      go_wp2_with fail
      exact bodyPost_ret (v := .tuple #[valV 0 0, .int .i64 1]) (by simp [results, Try.results10, go_sem, valV]) rfl ⟨rfl, by (repeat' (first | exact Below.refl _ _ | assumption | refine b_alloc ?_ _ | refine b_over ?_ _ | refine b_drew ?_ | refine b_call ?_ (by assumption)))⟩
    · have t1 : (kb != 0) = true := by rw [bne_iff_ne]; exact hk
      rw [bin_trap (Or.inr (Or.inr (by rw [ht]; exact hk)))]
      unfold valV
      clear ht hA hB hk
      go_enter Try.func10, Try.ntmps10
      go_wp2_with fail
      refine (bkinds_any _ _).mono ?_
      rintro e w1 ⟨rfl, rfl⟩
      rw [HT.out, if_neg (by decide), show decide ((0 : Int) ≤ 0) = true from rfl]
      go_wp2_with fail
      exact bodyPost_ret (v := .tuple #[valV 0 0, .int .i64 1]) (by simp [results, Try.results10, go_sem, valV]) rfl ⟨rfl, by (repeat' (first | exact Below.refl _ _ | assumption | refine b_alloc ?_ _ | refine b_over ?_ _ | refine b_drew ?_ | refine b_call ?_ (by assumption)))⟩
    · have HI := fun w => Lib.hid (ints_any op A B w o1 o2 hA hB)
      rw [bin_int ht]
      generalize (if intBad op B = true then (0 : Int) else intO op A B) = rv at *
      generalize (if intBad op B = true then (2 : Int) else 0) = rt at *
      unfold valV
      clear ht hA hB o1 o2
      go_enter Try.func10, Try.ntmps10
      go_wp2_with fail
      refine (bkinds_any _ _).mono ?_
      rintro e w1 ⟨rfl, rfl⟩
      rw [HT.out, if_neg (by decide), show decide ((0 : Int) ≤ 0) = true from rfl]
      have hW : Below w.heap.size w ((w.alloc (.cells #[.int .i64 0, .int .u64 A] 25)).alloc (.cells #[.int .i64 0, .int .u64 B] 25)) := b_alloc (b_alloc (Below.refl _ _) _) _
      have X1 := blk_alloc (blk_new w #[.int .i64 0, .int .u64 A] 25) (.cells #[.int .i64 0, .int .u64 B] 25)
      have X2 := blk_new (w.alloc (.cells #[.int .i64 0, .int .u64 A] 25)) #[.int .i64 0, .int .u64 B] 25
      have X3 := blk_new ((w.alloc (.cells #[.int .i64 0, .int .u64 A] 25)).alloc (.cells #[.int .i64 0, .int .u64 B] 25)) #[.int .i64 0, .int .u64 0] 25
      rw [show ((w.alloc (.cells #[.int .i64 0, .int .u64 A] 25)).alloc (.cells #[.int .i64 0, .int .u64 B] 25)).heap.size = w.heap.size + 1 + 1 by simp] at X3
      rw [show (w.alloc (.cells #[.int .i64 0, .int .u64 A] 25)).heap.size = w.heap.size + 1 by simp] at X2
      have H7 : Hid (∀ w', Below ((w.alloc (.cells #[.int .i64 0, .int .u64 A] 25)).alloc (.cells #[.int .i64 0, .int .u64 B] 25)).heap.size ((w.alloc (.cells #[.int .i64 0, .int .u64 A] 25)).alloc (.cells #[.int .i64 0, .int .u64 B] 25)) w' → (w'.cell? ⟨w.heap.size, 0, none⟩ = some (.int .i64 0) ∧ w'.cell? ⟨w.heap.size, 1, none⟩ = some (.int .u64 A) ∧ w'.cell? ⟨w.heap.size + 1, 0, none⟩ = some (.int .i64 0) ∧ w'.cell? ⟨w.heap.size + 1, 1, none⟩ = some (.int .u64 B))) := Lib.hid (fun w' hb => by
        obtain ⟨p0, p1, _⟩ := blk2 (blk_below X1 hb)
        obtain ⟨q0, q1, _⟩ := blk2 (blk_below X2 hb)
        exact ⟨p0, p1, q0, q1⟩)
      clear X1 X2
      go_upto_region 5 with fail
      refine wp_region_held_drew (S := fun w' => w'.cell? ⟨w.heap.size, 0, none⟩ = some (.int .i64 0) ∧ w'.cell? ⟨w.heap.size, 1, none⟩ = some (.int .u64 A) ∧ w'.cell? ⟨w.heap.size + 1, 0, none⟩ = some (.int .i64 0) ∧ w'.cell? ⟨w.heap.size + 1, 1, none⟩ = some (.int .u64 B)) (by kernel_rfl) (H7.out _ (b_drew (b_alloc (Below.refl _ _) _))) (fun hHeld => ?_)
      (refine wpAnyH_take (i := 0) (v := ?_) rfl (by kernel_rfl) (by kernel_rfl) (by kernel_rfl) (fun _ _ _ h => h) (Or.inl ⟨by rfl, ?_⟩) hHeld ?_; rotate_left; (focus (intro w hSw; (try dsimp only at hSw); go_simp; try (with_reducible rfl))); (try simp only [Act.put, List.getElem_toArray, List.getElem_cons_succ, List.getElem_cons_zero, List.setIfInBounds_toArray, List.set_cons_zero, List.set_cons_succ]))
      (refine wpAnyH_take (i := 1) (v := ?_) rfl (by kernel_rfl) (by kernel_rfl) (by kernel_rfl) (fun _ _ _ h => h) (Or.inl ⟨by rfl, ?_⟩) hHeld ?_; rotate_left; (focus (intro w hSw; (try dsimp only at hSw); go_simp; try (with_reducible rfl))); (try simp only [Act.put, List.getElem_toArray, List.getElem_cons_succ, List.getElem_cons_zero, List.setIfInBounds_toArray, List.set_cons_zero, List.set_cons_succ]))
      (refine wpAnyH_take (i := 3) (v := ?_) rfl (by kernel_rfl) (by kernel_rfl) (by kernel_rfl) (fun _ _ _ h => h) (Or.inl ⟨by rfl, ?_⟩) hHeld ?_; rotate_left; (focus (intro w hSw; (try dsimp only at hSw); go_simp; try (with_reducible rfl))); (try simp only [Act.put, List.getElem_toArray, List.getElem_cons_succ, List.getElem_cons_zero, List.setIfInBounds_toArray, List.set_cons_zero, List.set_cons_succ]))
      refine wpAnyH_ready (rs := [2]) (by kernel_rfl) (by simp) (AllReadyH.cons rfl (fun K hK => ?_) AllReadyH.nil)
      go_simp
      refine (int64_any _ _ _).mono ?_
      rintro e w5 ⟨rfl, hb5⟩
      refine hK.out _ _ (H7.out _ (by (repeat' (first | exact Below.refl _ _ | assumption | refine b_set ?_ (by simp only [World.size_alloc]; omega) _ | refine b_alloc ?_ _ | refine b_drew ?_ | refine b_call ?_ (by assumption))))) (fun hHeld => ?_)
      clear hK K
      (try simp only [Act.put, List.getElem_toArray, List.getElem_cons_succ, List.getElem_cons_zero, List.setIfInBounds_toArray, List.set_cons_zero, List.set_cons_succ])
      refine wpAnyH_ready (rs := [4]) (by kernel_rfl) (by simp) (AllReadyH.cons rfl (fun K hK => ?_) AllReadyH.nil)
      go_simp
      refine (int64_any _ _ _).mono ?_
      rintro e w6 ⟨rfl, hb6⟩
      refine hK.out _ _ (H7.out _ (by (repeat' (first | exact Below.refl _ _ | assumption | refine b_set ?_ (by simp only [World.size_alloc]; omega) _ | refine b_alloc ?_ _ | refine b_drew ?_ | refine b_call ?_ (by assumption))))) (fun hHeld => ?_)
      clear hK K
      (try simp only [Act.put, List.getElem_toArray, List.getElem_cons_succ, List.getElem_cons_zero, List.setIfInBounds_toArray, List.set_cons_zero, List.set_cons_succ])
      refine wpAnyH_ready (rs := [5]) (by kernel_rfl) (by simp) (AllReadyH.cons rfl (fun K hK => ?_) AllReadyH.nil)
      go_simp
      refine (HI _).out.mono ?_
      unfold valV
      rintro e w7 ⟨rfl, hb7⟩
      obtain ⟨c0, c1, cf⟩ := blk2 (blk_below (w1 := w7) X3 (by (repeat' (first | exact Below.refl _ _ | assumption | refine b_set ?_ (by simp only [World.size_alloc]; omega) _ | refine b_alloc ?_ _ | refine b_drew ?_ | refine b_call ?_ (by assumption)))))
      refine hK.out _ _ (H7.out _ (by (repeat' (first | exact Below.refl _ _ | assumption | refine b_set ?_ (by simp only [World.size_alloc]; omega) _ | refine b_alloc ?_ _ | refine b_drew ?_ | refine b_call ?_ (by assumption))))) (fun hHeld => ?_)
      clear hK K
      (try simp only [Act.put, List.getElem_toArray, List.getElem_cons_succ, List.getElem_cons_zero, List.setIfInBounds_toArray, List.set_cons_zero, List.set_cons_succ])
      (refine wpAnyH_take (i := 6) (v := ?_) rfl (by kernel_rfl) (by kernel_rfl) (by kernel_rfl) (fun _ _ _ h => h) (Or.inl ⟨by rfl, ?_⟩) hHeld ?_; rotate_left; (focus (intro w hSw; (try dsimp only at hSw); go_simp; try (with_reducible rfl))); (try simp only [Act.put, List.getElem_toArray, List.getElem_cons_succ, List.getElem_cons_zero, List.setIfInBounds_toArray, List.set_cons_zero, List.set_cons_succ]))
      (refine wpAnyH_take (i := 7) (v := ?_) rfl (by kernel_rfl) (by kernel_rfl) (by kernel_rfl) (fun _ _ _ h => h) (Or.inl ⟨by rfl, ?_⟩) hHeld ?_; rotate_left; (focus (intro w hSw; (try dsimp only at hSw); go_simp; try (with_reducible rfl))); (try simp only [Act.put, List.getElem_toArray, List.getElem_cons_succ, List.getElem_cons_zero, List.setIfInBounds_toArray, List.set_cons_zero, List.set_cons_succ]))
      refine wpAnyH_ready (rs := [8]) (by kernel_rfl) (by simp) (AllReadyH.cons rfl (fun K hK => ?_) AllReadyH.nil)
      go_simp
      refine hK.out _ _ (H7.out _ (by (repeat' (first | exact Below.refl _ _ | assumption | refine b_set ?_ (by simp only [World.size_alloc]; omega) _ | refine b_alloc ?_ _ | refine b_drew ?_ | refine b_call ?_ (by assumption))))) (fun hHeld => ?_)
      clear hK K
      (try simp only [Act.put, List.getElem_toArray, List.getElem_cons_succ, List.getElem_cons_zero, List.setIfInBounds_toArray, List.set_cons_zero, List.set_cons_succ])
      (refine wpAnyH_take (i := 9) (v := ?_) rfl (by kernel_rfl) (by kernel_rfl) (by kernel_rfl) (fun _ _ _ h => h) (Or.inl ⟨by rfl, ?_⟩) hHeld ?_; rotate_left; (focus (intro w hSw; (try dsimp only at hSw); go_simp; try (with_reducible rfl))); (try simp only [Act.put, List.getElem_toArray, List.getElem_cons_succ, List.getElem_cons_zero, List.setIfInBounds_toArray, List.set_cons_zero, List.set_cons_succ]))
      refine wpAnyH_done (by kernel_rfl) ?_ _
      go_wp2
      exact bodyPost_ret (v := .tuple #[valV 0 rv, .int .i64 rt]) (by simp [results, Try.results10, go_sem, valV, c0, c1, cf]) rfl ⟨rfl, by (repeat' (first | exact Below.refl _ _ | assumption | refine b_set ?_ (by simp only []; omega) _ | refine b_alloc ?_ _ | refine b_drew ?_ | refine b_call ?_ (by assumption)))⟩
  · have HT := Lib.hid ht
    rcases (show ka ≠ 1 ∨ (ka = 1 ∧ kb ≠ 1) ∨ (ka = 1 ∧ kb = 1) by omega) with hk | ⟨rfl, hk⟩ | ⟨rfl, rfl⟩
    · have t1 : (ka != 1) = true := by rw [bne_iff_ne]; exact hk
      rw [bin_trap (Or.inr (Or.inl (by rw [ht]; exact hk)))]
      unfold valV
      clear ht hA hB hk o1 o2
      go_enter Try.func10, Try.ntmps10
      go_wp2_with fail
      refine (bkinds_any _ _).mono ?_
      rintro e w1 ⟨rfl, rfl⟩
      rw [HT.out, if_pos rfl, show decide ((0 : Int) ≤ 1) = true from rfl]
      go_wp2_with fail
      exact bodyPost_ret (v := .tuple #[valV 0 0, .int .i64 1]) (by simp [results, Try.results10, go_sem, valV]) rfl ⟨rfl, by (repeat' (first | exact Below.refl _ _ | assumption | refine b_alloc ?_ _ | refine b_over ?_ _ | refine b_drew ?_ | refine b_call ?_ (by assumption)))⟩
    · have t1 : (kb != 1) = true := by rw [bne_iff_ne]; exact hk
      rw [bin_trap (Or.inr (Or.inr (by rw [ht]; exact hk)))]
      unfold valV
      clear ht hA hB hk o1 o2
      go_enter Try.func10, Try.ntmps10
      go_wp2_with fail
      refine (bkinds_any _ _).mono ?_
      rintro e w1 ⟨rfl, rfl⟩
      rw [HT.out, if_pos rfl, show decide ((0 : Int) ≤ 1) = true from rfl]
      go_wp2_with fail
      exact bodyPost_ret (v := .tuple #[valV 0 0, .int .i64 1]) (by simp [results, Try.results10, go_sem, valV]) rfl ⟨rfl, by (repeat' (first | exact Below.refl _ _ | assumption | refine b_alloc ?_ _ | refine b_over ?_ _ | refine b_drew ?_ | refine b_call ?_ (by assumption)))⟩
    · obtain ⟨a, rfl⟩ := Int.eq_ofNat_of_zero_le hA.1
      obtain ⟨b, rfl⟩ := Int.eq_ofNat_of_zero_le hB.1
      have HI := fun w => Lib.hid (floats_any op (canon a) (canon b) w o1 o2 (canon_lt (by have := hA.2; omega)) (canon_lt (by have := hB.2; omega)))
      rw [bin_flo ht]
      generalize floO op (canon a) (canon b) = rv at *
      unfold valV
      clear ht hA hB o1 o2
      go_enter Try.func10, Try.ntmps10
      go_wp2_with fail
      refine (bkinds_any _ _).mono ?_
      rintro e w1 ⟨rfl, rfl⟩
      rw [HT.out, if_pos rfl, show decide ((0 : Int) ≤ 1) = true from rfl]

      have hW : Below w.heap.size w ((w.alloc (.cells #[.int .i64 1, .int .u64 (a : Nat)] 25)).alloc (.cells #[.int .i64 1, .int .u64 (b : Nat)] 25)) := b_alloc (b_alloc (Below.refl _ _) _) _
      have X1 := blk_alloc (blk_new w #[.int .i64 1, .int .u64 (a : Nat)] 25) (.cells #[.int .i64 1, .int .u64 (b : Nat)] 25)
      have X2 := blk_new (w.alloc (.cells #[.int .i64 1, .int .u64 (a : Nat)] 25)) #[.int .i64 1, .int .u64 (b : Nat)] 25
      have X3 := blk_new ((w.alloc (.cells #[.int .i64 1, .int .u64 (a : Nat)] 25)).alloc (.cells #[.int .i64 1, .int .u64 (b : Nat)] 25)) #[.int .i64 0, .int .u64 0] 25
      rw [show ((w.alloc (.cells #[.int .i64 1, .int .u64 (a : Nat)] 25)).alloc (.cells #[.int .i64 1, .int .u64 (b : Nat)] 25)).heap.size = w.heap.size + 1 + 1 by simp] at X3
      rw [show (w.alloc (.cells #[.int .i64 1, .int .u64 (a : Nat)] 25)).heap.size = w.heap.size + 1 by simp] at X2
      have H7 : Hid (∀ w', Below ((w.alloc (.cells #[.int .i64 1, .int .u64 (a : Nat)] 25)).alloc (.cells #[.int .i64 1, .int .u64 (b : Nat)] 25)).heap.size ((w.alloc (.cells #[.int .i64 1, .int .u64 (a : Nat)] 25)).alloc (.cells #[.int .i64 1, .int .u64 (b : Nat)] 25)) w' → (w'.cell? ⟨w.heap.size, 0, none⟩ = some (.int .i64 1) ∧ w'.cell? ⟨w.heap.size, 1, none⟩ = some (.int .u64 (a : Nat)) ∧ w'.cell? ⟨w.heap.size + 1, 0, none⟩ = some (.int .i64 1) ∧ w'.cell? ⟨w.heap.size + 1, 1, none⟩ = some (.int .u64 (b : Nat)))) := Lib.hid (fun w' hb => by
        obtain ⟨p0, p1, _⟩ := blk2 (blk_below X1 hb)
        obtain ⟨q0, q1, _⟩ := blk2 (blk_below X2 hb)
        exact ⟨p0, p1, q0, q1⟩)
      clear X1 X2
      go_upto_region 6 with fail
      refine wp_region_held_drew (S := fun w' => w'.cell? ⟨w.heap.size, 0, none⟩ = some (.int .i64 1) ∧ w'.cell? ⟨w.heap.size, 1, none⟩ = some (.int .u64 (a : Nat)) ∧ w'.cell? ⟨w.heap.size + 1, 0, none⟩ = some (.int .i64 1) ∧ w'.cell? ⟨w.heap.size + 1, 1, none⟩ = some (.int .u64 (b : Nat))) (by kernel_rfl) (H7.out _ (b_drew (b_alloc (Below.refl _ _) _))) (fun hHeld => ?_)
      (refine wpAnyH_take (i := 0) (v := ?_) rfl (by kernel_rfl) (by kernel_rfl) (by kernel_rfl) (fun _ _ _ h => h) (Or.inl ⟨by rfl, ?_⟩) hHeld ?_; rotate_left; (focus (intro w hSw; (try dsimp only at hSw); go_simp; try (with_reducible rfl))); (try simp only [Act.put, List.getElem_toArray, List.getElem_cons_succ, List.getElem_cons_zero, List.setIfInBounds_toArray, List.set_cons_zero, List.set_cons_succ]))
      (refine wpAnyH_take (i := 1) (v := ?_) rfl (by kernel_rfl) (by kernel_rfl) (by kernel_rfl) (fun _ _ _ h => h) (Or.inl ⟨by rfl, ?_⟩) hHeld ?_; rotate_left; (focus (intro w hSw; (try dsimp only at hSw); go_simp; try (with_reducible rfl))); (try simp only [Act.put, List.getElem_toArray, List.getElem_cons_succ, List.getElem_cons_zero, List.setIfInBounds_toArray, List.set_cons_zero, List.set_cons_succ]))
      (refine wpAnyH_take (i := 3) (v := ?_) rfl (by kernel_rfl) (by kernel_rfl) (by kernel_rfl) (fun _ _ _ h => h) (Or.inl ⟨by rfl, ?_⟩) hHeld ?_; rotate_left; (focus (intro w hSw; (try dsimp only at hSw); go_simp; try (with_reducible rfl))); (try simp only [Act.put, List.getElem_toArray, List.getElem_cons_succ, List.getElem_cons_zero, List.setIfInBounds_toArray, List.set_cons_zero, List.set_cons_succ]))
      refine wpAnyH_ready (rs := [2]) (by kernel_rfl) (by simp) (AllReadyH.cons rfl (fun K hK => ?_) AllReadyH.nil)
      go_simp
      refine (float64_any _ _ _).mono ?_
      rintro e w5 ⟨rfl, hb5⟩
      refine hK.out _ _ (H7.out _ (by (repeat' (first | exact Below.refl _ _ | assumption | refine b_set ?_ (by simp only [World.size_alloc]; omega) _ | refine b_alloc ?_ _ | refine b_drew ?_ | refine b_call ?_ (by assumption))))) (fun hHeld => ?_)
      clear hK K
      (try simp only [Act.put, List.getElem_toArray, List.getElem_cons_succ, List.getElem_cons_zero, List.setIfInBounds_toArray, List.set_cons_zero, List.set_cons_succ])
      refine wpAnyH_ready (rs := [4]) (by kernel_rfl) (by simp) (AllReadyH.cons rfl (fun K hK => ?_) AllReadyH.nil)
      go_simp
      refine (float64_any _ _ _).mono ?_
      rintro e w6 ⟨rfl, hb6⟩
      refine hK.out _ _ (H7.out _ (by (repeat' (first | exact Below.refl _ _ | assumption | refine b_set ?_ (by simp only [World.size_alloc]; omega) _ | refine b_alloc ?_ _ | refine b_drew ?_ | refine b_call ?_ (by assumption))))) (fun hHeld => ?_)
      clear hK K
      (try simp only [Act.put, List.getElem_toArray, List.getElem_cons_succ, List.getElem_cons_zero, List.setIfInBounds_toArray, List.set_cons_zero, List.set_cons_succ])
      refine wpAnyH_ready (rs := [5]) (by kernel_rfl) (by simp) (AllReadyH.cons rfl (fun K hK => ?_) AllReadyH.nil)
      go_simp
      refine (HI _).out.mono ?_
      unfold valV
      rintro e w7 ⟨rfl, hb7⟩
      obtain ⟨c0, c1, cf⟩ := blk2 (blk_below (w1 := w7) X3 (by (repeat' (first | exact Below.refl _ _ | assumption | refine b_set ?_ (by simp only [World.size_alloc]; omega) _ | refine b_alloc ?_ _ | refine b_drew ?_ | refine b_call ?_ (by assumption)))))
      refine hK.out _ _ (H7.out _ (by (repeat' (first | exact Below.refl _ _ | assumption | refine b_set ?_ (by simp only [World.size_alloc]; omega) _ | refine b_alloc ?_ _ | refine b_drew ?_ | refine b_call ?_ (by assumption))))) (fun hHeld => ?_)
      clear hK K
      (try simp only [Act.put, List.getElem_toArray, List.getElem_cons_succ, List.getElem_cons_zero, List.setIfInBounds_toArray, List.set_cons_zero, List.set_cons_succ])
      refine wpAnyH_ready (rs := [6]) (by kernel_rfl) (by simp) (AllReadyH.cons rfl (fun K hK => ?_) AllReadyH.nil)
      go_simp
      refine hK.out _ _ (H7.out _ (by (repeat' (first | exact Below.refl _ _ | assumption | refine b_set ?_ (by simp only [World.size_alloc]; omega) _ | refine b_alloc ?_ _ | refine b_drew ?_ | refine b_call ?_ (by assumption))))) (fun hHeld => ?_)
      clear hK K
      (try simp only [Act.put, List.getElem_toArray, List.getElem_cons_succ, List.getElem_cons_zero, List.setIfInBounds_toArray, List.set_cons_zero, List.set_cons_succ])
      (refine wpAnyH_take (i := 7) (v := ?_) rfl (by kernel_rfl) (by kernel_rfl) (by kernel_rfl) (fun _ _ _ h => h) (Or.inl ⟨by rfl, ?_⟩) hHeld ?_; rotate_left; (focus (intro w hSw; (try dsimp only at hSw); go_simp; try (with_reducible rfl))); (try simp only [Act.put, List.getElem_toArray, List.getElem_cons_succ, List.getElem_cons_zero, List.setIfInBounds_toArray, List.set_cons_zero, List.set_cons_succ]))
      refine wpAnyH_done (by kernel_rfl) ?_ _
      go_wp2
      exact bodyPost_ret (v := .tuple #[valV (givesO op) (rv : Nat), .int .i64 0]) (by simp [results, Try.results10, go_sem, valV, c0, c1, cf]) rfl ⟨rfl, by (repeat' (first | exact Below.refl _ _ | assumption | refine b_set ?_ (by simp only []; omega) _ | refine b_alloc ?_ _ | refine b_drew ?_ | refine b_call ?_ (by assumption)))⟩
set_option maxHeartbeats 4000000 in
theorem rbinary_any (op ka A kb B : Int) (w : World) (hA : U64 A) (hB : U64 B) : Calls Try.prog 12 #[.int .i64 op, valV ka A, valV kb B] w fun e w' => e = .returned (retBin (binO op ka A kb B)) ∧ Below w.heap.size w w' := by
  rcases takes_cases op with ht | ⟨ht, o1, o2⟩ | ⟨ht, o1, o2⟩
  · have HT := Lib.hid ht
    rw [bin_trap (Or.inl (by omega))]
    unfold valV
    clear ht hA hB
    go_enter Try.func12, Try.ntmps12
    go_wp2_with fail
    refine (takes_any _ _).mono ?_
    rintro e w1 ⟨rfl, rfl⟩
    rw [HT.out]
    go_wp2_with fail
    exact bodyPost_ret (v := .tuple #[valV 0 0, .int .i64 1]) (by simp [results, Try.results12, go_sem, valV]) rfl ⟨rfl, by (repeat' (first | exact Below.refl _ _ | assumption | refine b_alloc ?_ _ | refine b_over ?_ _ | refine b_drew ?_ | refine b_call ?_ (by assumption)))⟩
  · have HT := Lib.hid ht
    rcases (show ka ≠ 0 ∨ (ka = 0 ∧ kb ≠ 0) ∨ (ka = 0 ∧ kb = 0) by omega) with hk | ⟨rfl, hk⟩ | ⟨rfl, rfl⟩
    · have t1 : (ka != 0) = true := by rw [bne_iff_ne]; exact hk
      rw [bin_trap (Or.inr (Or.inl (by rw [ht]; exact hk)))]
      unfold valV
      clear ht hA hB hk
      go_enter Try.func12, Try.ntmps12
      go_wp2_with fail
      refine (takes_any _ _).mono ?_
      rintro e w1 ⟨rfl, rfl⟩
      rw [HT.out]
      go_wp2_with fail
      exact bodyPost_ret (v := .tuple #[valV 0 0, .int .i64 1]) (by simp [results, Try.results12, go_sem, valV]) rfl ⟨rfl, by (repeat' (first | exact Below.refl _ _ | assumption | refine b_alloc ?_ _ | refine b_over ?_ _ | refine b_drew ?_ | refine b_call ?_ (by assumption)))⟩
    · have t1 : (kb != 0) = true := by rw [bne_iff_ne]; exact hk
      rw [bin_trap (Or.inr (Or.inr (by rw [ht]; exact hk)))]
      unfold valV
      clear ht hA hB hk
      go_enter Try.func12, Try.ntmps12
      go_wp2_with fail
      refine (takes_any _ _).mono ?_
      rintro e w1 ⟨rfl, rfl⟩
      rw [HT.out]
      go_wp2_with fail
      exact bodyPost_ret (v := .tuple #[valV 0 0, .int .i64 1]) (by simp [results, Try.results12, go_sem, valV]) rfl ⟨rfl, by (repeat' (first | exact Below.refl _ _ | assumption | refine b_alloc ?_ _ | refine b_over ?_ _ | refine b_drew ?_ | refine b_call ?_ (by assumption)))⟩
    · cases hbad : intBad op B with
      | true =>
        have HI := fun w => Lib.hid (rint_bad op A B w hbad)
        rw [bin_int ht, hbad]
        simp only [if_true]
        unfold valV
        clear ht hA hB o1 o2 hbad
        go_enter Try.func12, Try.ntmps12
        go_wp2_with fail
        refine (takes_any _ _).mono ?_
        rintro e w1 ⟨rfl, rfl⟩
        rw [HT.out]
        go_wp2_with fail
        refine (HI _).out.mono ?_
        rintro e w2 ⟨rfl, hb2⟩
        obtain ⟨c0, c1, cf⟩ := blk2 (blk_born hb2)
        simp only [World.size_alloc] at c0 c1 cf
        go_wp2_with fail
        exact bodyPost_ret (v := .tuple #[valV 0 0, .int .i64 2]) (by simp [results, Try.results12, go_sem, valV, c0, c1, cf]) rfl ⟨rfl, b_set (b_set (b_call (b_alloc (b_alloc (b_alloc (Below.refl _ _) _) _) _) hb2) (by simp only []; omega) _) (by simp only []; omega) _⟩
      | false =>
        have HI := fun w => Lib.hid (rint_any op A B w o1 o2 hA hB hbad)
        rw [bin_int ht, hbad]
        simp only [Bool.false_eq_true, if_false]
        generalize intO op A B = rv at *
        unfold valV
        clear ht hA hB o1 o2 hbad
        go_enter Try.func12, Try.ntmps12
        go_wp2_with fail
        refine (takes_any _ _).mono ?_
        rintro e w1 ⟨rfl, rfl⟩
        rw [HT.out]
        go_wp2_with fail
        refine (HI _).out.mono ?_
        rintro e w2 ⟨rfl, hb2⟩
        obtain ⟨c0, c1, cf⟩ := blk2 (blk_born hb2)
        simp only [World.size_alloc] at c0 c1 cf
        go_wp2_with fail
        exact bodyPost_ret (v := .tuple #[valV 0 rv, .int .i64 0]) (by simp [results, Try.results12, go_sem, valV, c0, c1, cf]) rfl ⟨rfl, b_set (b_set (b_call (b_alloc (b_alloc (b_alloc (Below.refl _ _) _) _) _) hb2) (by simp only []; omega) _) (by simp only []; omega) _⟩
  · have HT := Lib.hid ht
    rcases (show ka ≠ 1 ∨ (ka = 1 ∧ kb ≠ 1) ∨ (ka = 1 ∧ kb = 1) by omega) with hk | ⟨rfl, hk⟩ | ⟨rfl, rfl⟩
    · have t1 : (ka != 1) = true := by rw [bne_iff_ne]; exact hk
      rw [bin_trap (Or.inr (Or.inl (by rw [ht]; exact hk)))]
      unfold valV
      clear ht hA hB hk o1 o2
      go_enter Try.func12, Try.ntmps12
      go_wp2_with fail
      refine (takes_any _ _).mono ?_
      rintro e w1 ⟨rfl, rfl⟩
      rw [HT.out]
      go_wp2_with fail
      exact bodyPost_ret (v := .tuple #[valV 0 0, .int .i64 1]) (by simp [results, Try.results12, go_sem, valV]) rfl ⟨rfl, by (repeat' (first | exact Below.refl _ _ | assumption | refine b_alloc ?_ _ | refine b_over ?_ _ | refine b_drew ?_ | refine b_call ?_ (by assumption)))⟩
    · have t1 : (kb != 1) = true := by rw [bne_iff_ne]; exact hk
      rw [bin_trap (Or.inr (Or.inr (by rw [ht]; exact hk)))]
      unfold valV
      clear ht hA hB hk o1 o2
      go_enter Try.func12, Try.ntmps12
      go_wp2_with fail
      refine (takes_any _ _).mono ?_
      rintro e w1 ⟨rfl, rfl⟩
      rw [HT.out]
      go_wp2_with fail
      exact bodyPost_ret (v := .tuple #[valV 0 0, .int .i64 1]) (by simp [results, Try.results12, go_sem, valV]) rfl ⟨rfl, by (repeat' (first | exact Below.refl _ _ | assumption | refine b_alloc ?_ _ | refine b_over ?_ _ | refine b_drew ?_ | refine b_call ?_ (by assumption)))⟩
    · obtain ⟨a, rfl⟩ := Int.eq_ofNat_of_zero_le hA.1
      obtain ⟨b, rfl⟩ := Int.eq_ofNat_of_zero_le hB.1
      have HI := fun w => Lib.hid (rfl_any op (canon a) (canon b) w o1 o2 (canon_lt (by have := hA.2; omega)) (canon_lt (by have := hB.2; omega)))
      rw [bin_flo ht]
      generalize floO op (canon a) (canon b) = rv at *
      unfold valV
      clear ht hA hB o1 o2
      go_enter Try.func12, Try.ntmps12
      go_wp2_with fail
      refine (takes_any _ _).mono ?_
      rintro e w1 ⟨rfl, rfl⟩
      rw [HT.out]
      have hW : Below w.heap.size w ((w.alloc (.cells #[.int .i64 1, .int .u64 (a : Nat)] 24)).alloc (.cells #[.int .i64 1, .int .u64 (b : Nat)] 24)) := b_alloc (b_alloc (Below.refl _ _) _) _
      have X1 := blk_alloc (blk_new w #[.int .i64 1, .int .u64 (a : Nat)] 24) (.cells #[.int .i64 1, .int .u64 (b : Nat)] 24)
      have X2 := blk_new (w.alloc (.cells #[.int .i64 1, .int .u64 (a : Nat)] 24)) #[.int .i64 1, .int .u64 (b : Nat)] 24
      have X3 := blk_new ((w.alloc (.cells #[.int .i64 1, .int .u64 (a : Nat)] 24)).alloc (.cells #[.int .i64 1, .int .u64 (b : Nat)] 24)) #[.int .i64 0, .int .u64 0] 24
      rw [show ((w.alloc (.cells #[.int .i64 1, .int .u64 (a : Nat)] 24)).alloc (.cells #[.int .i64 1, .int .u64 (b : Nat)] 24)).heap.size = w.heap.size + 1 + 1 by simp] at X3
      rw [show (w.alloc (.cells #[.int .i64 1, .int .u64 (a : Nat)] 24)).heap.size = w.heap.size + 1 by simp] at X2
      have H7 : Hid (∀ w', Below ((w.alloc (.cells #[.int .i64 1, .int .u64 (a : Nat)] 24)).alloc (.cells #[.int .i64 1, .int .u64 (b : Nat)] 24)).heap.size ((w.alloc (.cells #[.int .i64 1, .int .u64 (a : Nat)] 24)).alloc (.cells #[.int .i64 1, .int .u64 (b : Nat)] 24)) w' → (w'.cell? ⟨w.heap.size, 0, none⟩ = some (.int .i64 1) ∧ w'.cell? ⟨w.heap.size, 1, none⟩ = some (.int .u64 (a : Nat)) ∧ w'.cell? ⟨w.heap.size + 1, 0, none⟩ = some (.int .i64 1) ∧ w'.cell? ⟨w.heap.size + 1, 1, none⟩ = some (.int .u64 (b : Nat)))) := Lib.hid (fun w' hb => by
        obtain ⟨p0, p1, _⟩ := blk2 (blk_below X1 hb)
        obtain ⟨q0, q1, _⟩ := blk2 (blk_below X2 hb)
        exact ⟨p0, p1, q0, q1⟩)
      clear X1 X2
      go_upto_region 5 with fail
      refine wp_region_held_drew (S := fun w' => w'.cell? ⟨w.heap.size, 0, none⟩ = some (.int .i64 1) ∧ w'.cell? ⟨w.heap.size, 1, none⟩ = some (.int .u64 (a : Nat)) ∧ w'.cell? ⟨w.heap.size + 1, 0, none⟩ = some (.int .i64 1) ∧ w'.cell? ⟨w.heap.size + 1, 1, none⟩ = some (.int .u64 (b : Nat))) (by kernel_rfl) (H7.out _ (b_drew (b_alloc (Below.refl _ _) _))) (fun hHeld => ?_)
      (refine wpAnyH_take (i := 0) (v := ?_) rfl (by kernel_rfl) (by kernel_rfl) (by kernel_rfl) (fun _ _ _ h => h) (Or.inl ⟨by rfl, ?_⟩) hHeld ?_; rotate_left; (focus (intro w hSw; (try dsimp only at hSw); go_simp; try (with_reducible rfl))); (try simp only [Act.put, List.getElem_toArray, List.getElem_cons_succ, List.getElem_cons_zero, List.setIfInBounds_toArray, List.set_cons_zero, List.set_cons_succ]))
      (refine wpAnyH_take (i := 2) (v := ?_) rfl (by kernel_rfl) (by kernel_rfl) (by kernel_rfl) (fun _ _ _ h => h) (Or.inl ⟨by rfl, ?_⟩) hHeld ?_; rotate_left; (focus (intro w hSw; (try dsimp only at hSw); go_simp; try (with_reducible rfl))); (try simp only [Act.put, List.getElem_toArray, List.getElem_cons_succ, List.getElem_cons_zero, List.setIfInBounds_toArray, List.set_cons_zero, List.set_cons_succ]))
      (refine wpAnyH_take (i := 3) (v := ?_) rfl (by kernel_rfl) (by kernel_rfl) (by kernel_rfl) (fun _ _ _ h => h) (Or.inl ⟨by rfl, ?_⟩) hHeld ?_; rotate_left; (focus (intro w hSw; (try dsimp only at hSw); go_simp; try (with_reducible rfl))); (try simp only [Act.put, List.getElem_toArray, List.getElem_cons_succ, List.getElem_cons_zero, List.setIfInBounds_toArray, List.set_cons_zero, List.set_cons_succ]))
      (refine wpAnyH_take (i := 4) (v := ?_) rfl (by kernel_rfl) (by kernel_rfl) (by kernel_rfl) (fun _ _ _ h => h) (Or.inl ⟨by rfl, ?_⟩) hHeld ?_; rotate_left; (focus (intro w hSw; (try dsimp only at hSw); go_simp; try (with_reducible rfl))); (try simp only [Act.put, List.getElem_toArray, List.getElem_cons_succ, List.getElem_cons_zero, List.setIfInBounds_toArray, List.set_cons_zero, List.set_cons_succ]))
      (refine wpAnyH_take (i := 6) (v := ?_) rfl (by kernel_rfl) (by kernel_rfl) (by kernel_rfl) (fun _ _ _ h => h) (Or.inl ⟨by rfl, ?_⟩) hHeld ?_; rotate_left; (focus (intro w hSw; (try dsimp only at hSw); go_simp; try (with_reducible rfl))); (try simp only [Act.put, List.getElem_toArray, List.getElem_cons_succ, List.getElem_cons_zero, List.setIfInBounds_toArray, List.set_cons_zero, List.set_cons_succ]))
      (refine wpAnyH_take (i := 7) (v := ?_) rfl (by kernel_rfl) (by kernel_rfl) (by kernel_rfl) (fun _ _ _ h => h) (Or.inl ⟨by rfl, ?_⟩) hHeld ?_; rotate_left; (focus (intro w hSw; (try dsimp only at hSw); go_simp; try (with_reducible rfl))); (try simp only [Act.put, List.getElem_toArray, List.getElem_cons_succ, List.getElem_cons_zero, List.setIfInBounds_toArray, List.set_cons_zero, List.set_cons_succ]))
      refine wpAnyH_ready (rs := [1]) (by kernel_rfl) (by simp) (AllReadyH.cons rfl (fun K hK => ?_) AllReadyH.nil)
      go_simp
      refine (gives_any _ _).mono ?_
      rintro e w4 ⟨rfl, rfl⟩
      refine hK.out _ _ (H7.out _ (by (repeat' (first | exact Below.refl _ _ | assumption | refine b_set ?_ (by simp only [World.size_alloc]; omega) _ | refine b_alloc ?_ _ | refine b_drew ?_ | refine b_call ?_ (by assumption))))) (fun hHeld => ?_)
      clear hK K
      (try simp only [Act.put, List.getElem_toArray, List.getElem_cons_succ, List.getElem_cons_zero, List.setIfInBounds_toArray, List.set_cons_zero, List.set_cons_succ])
      refine wpAnyH_ready (rs := [5]) (by kernel_rfl) (by simp) (AllReadyH.cons rfl (fun K hK => ?_) AllReadyH.nil)
      go_simp
      refine (clean_any _ _).mono ?_
      rintro e w5 ⟨rfl, hb5⟩
      refine hK.out _ _ (H7.out _ (by (repeat' (first | exact Below.refl _ _ | assumption | refine b_set ?_ (by simp only [World.size_alloc]; omega) _ | refine b_alloc ?_ _ | refine b_drew ?_ | refine b_call ?_ (by assumption))))) (fun hHeld => ?_)
      clear hK K
      (try simp only [Act.put, List.getElem_toArray, List.getElem_cons_succ, List.getElem_cons_zero, List.setIfInBounds_toArray, List.set_cons_zero, List.set_cons_succ])
      refine wpAnyH_ready (rs := [8]) (by kernel_rfl) (by simp) (AllReadyH.cons rfl (fun K hK => ?_) AllReadyH.nil)
      go_simp
      refine (clean_any _ _).mono ?_
      rintro e w6 ⟨rfl, hb6⟩
      refine hK.out _ _ (H7.out _ (by (repeat' (first | exact Below.refl _ _ | assumption | refine b_set ?_ (by simp only [World.size_alloc]; omega) _ | refine b_alloc ?_ _ | refine b_drew ?_ | refine b_call ?_ (by assumption))))) (fun hHeld => ?_)
      clear hK K
      (try simp only [Act.put, List.getElem_toArray, List.getElem_cons_succ, List.getElem_cons_zero, List.setIfInBounds_toArray, List.set_cons_zero, List.set_cons_succ])
      refine wpAnyH_ready (rs := [9]) (by kernel_rfl) (by simp) (AllReadyH.cons rfl (fun K hK => ?_) AllReadyH.nil)
      go_simp
      refine (HI _).out.mono ?_
      rintro e w7 ⟨rfl, hb7⟩
      obtain ⟨c0, c1, cf⟩ := blk2 (blk_below (w1 := w7) X3 (by (repeat' (first | exact Below.refl _ _ | assumption | refine b_set ?_ (by simp only [World.size_alloc]; omega) _ | refine b_alloc ?_ _ | refine b_drew ?_ | refine b_call ?_ (by assumption)))))
      refine hK.out _ _ (H7.out _ (by (repeat' (first | exact Below.refl _ _ | assumption | refine b_set ?_ (by simp only [World.size_alloc]; omega) _ | refine b_alloc ?_ _ | refine b_drew ?_ | refine b_call ?_ (by assumption))))) (fun hHeld => ?_)
      clear hK K
      (try simp only [Act.put, List.getElem_toArray, List.getElem_cons_succ, List.getElem_cons_zero, List.setIfInBounds_toArray, List.set_cons_zero, List.set_cons_succ])
      (refine wpAnyH_take (i := 10) (v := ?_) rfl (by kernel_rfl) (by kernel_rfl) (by kernel_rfl) (fun _ _ _ h => h) (Or.inl ⟨by rfl, ?_⟩) hHeld ?_; rotate_left; (focus (intro w hSw; (try dsimp only at hSw); go_simp; try (with_reducible rfl))); (try simp only [Act.put, List.getElem_toArray, List.getElem_cons_succ, List.getElem_cons_zero, List.setIfInBounds_toArray, List.set_cons_zero, List.set_cons_succ]))
      refine wpAnyH_ready (rs := [11]) (by kernel_rfl) (by simp) (AllReadyH.cons rfl (fun K hK => ?_) AllReadyH.nil)
      go_simp
      refine hK.out _ _ (H7.out _ (by (repeat' (first | exact Below.refl _ _ | assumption | refine b_set ?_ (by simp only [World.size_alloc]; omega) _ | refine b_alloc ?_ _ | refine b_drew ?_ | refine b_call ?_ (by assumption))))) (fun hHeld => ?_)
      clear hK K
      (try simp only [Act.put, List.getElem_toArray, List.getElem_cons_succ, List.getElem_cons_zero, List.setIfInBounds_toArray, List.set_cons_zero, List.set_cons_succ])
      (refine wpAnyH_take (i := 12) (v := ?_) rfl (by kernel_rfl) (by kernel_rfl) (by kernel_rfl) (fun _ _ _ h => h) (Or.inl ⟨by rfl, ?_⟩) hHeld ?_; rotate_left; (focus (intro w hSw; (try dsimp only at hSw); go_simp; try (with_reducible rfl))); (try simp only [Act.put, List.getElem_toArray, List.getElem_cons_succ, List.getElem_cons_zero, List.setIfInBounds_toArray, List.set_cons_zero, List.set_cons_succ]))
      refine wpAnyH_done (by kernel_rfl) ?_ _
      go_wp2
      exact bodyPost_ret (v := .tuple #[valV (givesO op) (rv : Nat), .int .i64 0]) (by simp [results, Try.results12, go_sem, valV, c0, c1, cf]) rfl ⟨rfl, by (repeat' (first | exact Below.refl _ _ | assumption | refine b_set ?_ (by simp only []; omega) _ | refine b_alloc ?_ _ | refine b_drew ?_ | refine b_call ?_ (by assumption)))⟩
end Go.Proofs.Ytgiegfgoglhnoaa
