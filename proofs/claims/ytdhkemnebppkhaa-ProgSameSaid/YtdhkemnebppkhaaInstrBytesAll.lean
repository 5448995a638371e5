/- InstrBytes, walked: whatever the instruction and the bytes behind it, the answer is true. Conditions: the numbers are of their kinds; the slice reads as bytes. -/
import Derived.Test.YtdhkemnebppkhaaInstrBytesLaw
namespace Go.Proofs.Ytdhkemnebppkhaa
open Go.RowKit
set_option linter.unusedVariables false
set_option linter.unusedSimpArgs false
theorem conv_own {w : World} {B : Nat} {v : Value} {xs : List Int} {n : Nat} (h : OwnB w B v xs) (hn : n = xs.length) (hp : 0 < n) (hb : IsBytes xs) : ∃ g cap, v = .slice (some ⟨g, 0, none⟩) n cap ∧ g < w.heap.size ∧ B ≤ g ∧ ∀ w', Below w.heap.size w w' → (convert 37 9 (.slice (some ⟨g, 0, none⟩) n cap)).run Try.prog w' = .ok (.string (bytesOf xs)) w' := by
  obtain ⟨g, cap, rfl, h1, h2, h3, h4, h5, h6⟩ := ownB_form h (by omega)
  refine ⟨g, cap, by rw [hn], h2, h1, fun w' hB => ?_⟩
  refine conv_bytes (xs := xs) hn.symm hb (fun j hj => ?_)
  rw [Addr.add_lit, Nat.zero_add, (bcell hB).1 _ _ h2]
  exact h5 j (by omega)
theorem instrBytes_no (op x a b : Int) (u : Value) (w : World) (hm : mayB op x a b = false) : Calls Try.prog 4 #[.agg #[.int .i64 op, .int .u64 x, .int .i64 a, .int .i64 b], u] w fun e w' => e = .returned (.bool true) ∧ Below w.heap.size w w' := by
  have hB : Below w.heap.size w (w.alloc (.cells #[.int .i64 op, .int .u64 x, .int .i64 a, .int .i64 b] 24)) := b_alloc (Below.refl _ _) _
  have HM := Lib.hid hm; clear hm
  go_enter Try.func4, Try.ntmps4
  go_wp2_with fail
  refine (ours_any _ _ _ _ _).mono ?_
  rintro e w1 ⟨rfl, hb1⟩
  go_wp2_with fail
  refine (ibytes_none _ _ _ _ _ HM.out).mono ?_
  rintro e w2 ⟨v, rfl, own, hb2⟩
  obtain ⟨va, vc, rfl⟩ := readB_len (ownB_read own)
  rw [show ([] : List Int).length = 0 from rfl]
  have hb2' := b_call hb1 hb2
  obtain ⟨c0, c1, c2, c3, cf⟩ := blk4 (blk_born hb2')
  clear own
  go_wp2_with fail
  refine (rmay_any _ _ _ _ _).mono ?_
  rintro e w3 ⟨rfl, hb3⟩
  rw [HM.out]
  go_wp2_with fail
  refine (awake24 _).mono ?_
  rintro e w4 ⟨rfl, hb4⟩
  go_wp2_with fail
  go_ret
  exact ⟨rfl, b_call (b_call (b_call hB hb2') hb3) hb4⟩
set_option maxHeartbeats 4000000 in
theorem instrBytes_long (op x a b : Int) (u : Value) (xs : List Int) (w : World) (hx : 0 ≤ x) (hx2 : x < 18446744073709551616) (h : ReadB w u xs) (hb : IsBytes xs) (hm : mayB op x a b = true) (hlen : 20 < xs.length) : Calls Try.prog 4 #[.agg #[.int .i64 op, .int .u64 x, .int .i64 a, .int .i64 b], u] w fun e w' => e = .returned (.bool true) ∧ Below w.heap.size w w' := by
  obtain ⟨c, o, cap, rfl, h1, h2, h3, h4⟩ := readB_pos h (by omega)
  have hr := readB_take h (n := 20) (by omega)
  have hby := isBytes_take hb 20
  have hyl : (xs.take 20).length ≤ 20 := by simp; omega
  obtain ⟨ys, hys⟩ : ∃ ys, ys = xs.take 20 := ⟨_, rfl⟩
  rw [← hys] at hr hby hyl
  have c20 : 20 ≤ cap := by omega
  have t20 : decide (20 < (xs.length : Int)) = true := by rw [decide_eq_true_iff]; omega
  have HR := Lib.hid hr; have HBY := Lib.hid hby; have HY := Lib.hid hyl
  clear hys h4 hb h hr hby hyl hlen
  have hB : Below w.heap.size w (w.alloc (.cells #[.int .i64 op, .int .u64 x, .int .i64 a, .int .i64 b] 24)) := b_alloc (Below.refl _ _) _
  obtain ⟨pa, pb⟩ := may_arg hm
  obtain ⟨e1, e2, e3, e4, e5⟩ := bytes_back hm hx hx2 ys
  have hlen' := bytesI_sz op x a b
  have hbb := isBytes_bytesI op x a b
  have szl : szR op ≤ 13 := by unfold szR; rcases kinds op with ⟨_, k2, k3⟩ | ⟨_, k2, k3⟩ | ⟨_, k2, k3⟩ | ⟨_, k2, k3⟩ | ⟨_, k2, k3⟩ <;> rw [k2, k3] <;> decide
  have szp := szR_pos2 op
  obtain ⟨n, hn⟩ : ∃ n, n = szR op := ⟨_, rfl⟩
  obtain ⟨L, hL⟩ : ∃ L, L = bytesI op x a b := ⟨_, rfl⟩
  have HI := fun (w : World) => ibytes_some op x a b w hm hx hx2
  have HJ := fun (w : World) => rbytes_any op x a b w hx hx2 pa pb
  rw [← hn] at hlen' szl szp
  rw [← hL] at e1 e2 e3 e4 e5 hlen' hbb HI HJ
  have HM := Lib.hid hm; have E1 := Lib.hid e1; have E2 := Lib.hid e2; have E3 := Lib.hid e3; have E4 := Lib.hid e4; have E5 := Lib.hid e5; have HLN := Lib.hid hlen'; have HBB := Lib.hid hbb; have HN := Lib.hid hn; have HHI := Lib.hid HI; have HHJ := Lib.hid HJ
  clear hm hx hx2 pa pb e1 e2 e3 e4 e5 hlen' hbb hn hL HI HJ
  go_enter Try.func4, Try.ntmps4
  go_wp2_with fail
  refine (ours_any _ _ _ _ _).mono ?_
  rintro e w1 ⟨rfl, hb1⟩
  go_wp2_with fail
  refine (HHI.out _).mono ?_
  rintro e w2 ⟨v, rfl, own, hb2⟩
  have hb2' := b_call hb1 hb2
  obtain ⟨g, cg, rfl, gl, gB, hcv⟩ := conv_own own (n := n) HLN.out.symm szp HBB.out
  obtain ⟨s, hs⟩ : ∃ s, s = bytesOf L := ⟨_, rfl⟩
  rw [← hs] at hcv
  have HS := Lib.hid hs; have HCV := Lib.hid hcv
  have HOWN := Lib.hid own
  clear hs hcv own
  obtain ⟨c0, c1, c2, c3, cf⟩ := blk4 (blk_born hb2')
  go_wp2_with fail
  refine (rmay_any _ _ _ _ _).mono ?_
  rintro e w3 ⟨rfl, hb3⟩
  rw [HM.out]
  have hb3' := b_call hb2' hb3
  have hB3 := b_call hB hb3'
  have own3 := ownB_below HOWN.out hb3
  clear c0 c1 c2 c3 cf
  go_wp2_with ((first | (at_builtin; refine appendB rfl _ _ rfl w3.heap.size _ [] rfl (own_emptyB (Nat.le_refl _)) _ L rfl (readB_below (ownB_read own3) (b_alloc (Below.refl _ _) _)) ?c1 ?c2 ?_; (case c1 => (rw [HLN.out]; simp only [List.length_nil]; omega)); (case c2 => (simp)); intro v4 w4 own4 hg4; have hb4 := b_ownB (b_alloc (Below.refl w3.heap.size w3) _) (own_emptyB (Nat.le_refl _)) hg4; rw [List.nil_append] at own4; clear own3) | (at_builtin; refine appendB rfl _ _ rfl w3.heap.size _ L rfl own4 _ ys rfl (readB_below HR.out (b_call hB3 hb4)) ?c3 ?c4 ?_; (case c3 => (rw [HLN.out]; have := HY.out; omega)); (case c4 => (exact hb4.size)); intro v5 w5 own5 hg5; have hb5 := b_ownB hb4 own4 hg5)))
  have r5 := ownB_read own5
  clear own4 own5 hg4 hg5 hb4
  refine (iread_ok _ _ _ r5 (isBytes_append HBB.out HBY.out) (by rw [List.length_append, HLN.out]; have := HY.out; omega) E1.out).mono ?_
  rintro e w6 ⟨rfl, hb6⟩
  rw [E2.out, E3.out, E4.out, E5.out, ← HN.out]
  unfold instV
  have hb6' := b_call hb5 hb6
  have zz := hb6'.size
  have hb7 := b_alloc (b_call hb3' hb6') (.cells #[.int .i64 op, .int .u64 x, .int .i64 a, .int .i64 b] 32)
  have B7 := blk_born hb7
  have G7 := blk_new w6 #[.int .i64 op, .int .u64 x, .int .i64 a, .int .i64 b] 32
  have H7 : Hid (∀ w', Below (w6.alloc (.cells #[.int .i64 op, .int .u64 x, .int .i64 a, .int .i64 b] 32)).heap.size (w6.alloc (.cells #[.int .i64 op, .int .u64 x, .int .i64 a, .int .i64 b] 32)) w' → (w'.cell? ⟨w.heap.size, 0, none⟩ = some (.int .i64 op) ∧ w'.cell? ⟨w.heap.size, 1, none⟩ = some (.int .u64 x) ∧ w'.cell? ⟨w.heap.size, 2, none⟩ = some (.int .i64 a) ∧ w'.cell? ⟨w.heap.size, 3, none⟩ = some (.int .i64 b) ∧ w'.cell? ⟨w6.heap.size, 0, none⟩ = some (.int .i64 op) ∧ w'.cell? ⟨w6.heap.size, 1, none⟩ = some (.int .u64 x) ∧ w'.cell? ⟨w6.heap.size, 2, none⟩ = some (.int .i64 a) ∧ w'.cell? ⟨w6.heap.size, 3, none⟩ = some (.int .i64 b) ∧ (convert 37 9 (.slice (some ⟨g, 0, none⟩) n cg)).run Try.prog w' = .ok (.string s) w')) := Lib.hid (fun w' hb => by
    obtain ⟨p0, p1, p2, p3, _⟩ := blk4 (blk_below B7 hb)
    obtain ⟨q0, q1, q2, q3, _⟩ := blk4 (blk_below G7 hb)
    exact ⟨p0, p1, p2, p3, q0, q1, q2, q3, HCV.out _ (b_call (b_alloc (b_call hb3 hb6') _) hb)⟩)
  have B3z := b_call (b_alloc (b_call hB3 hb6') (.cells #[.int .i64 op, .int .u64 x, .int .i64 a, .int .i64 b] 32)) (Below.refl _ _)
  clear B7 G7 r5 gB gl
  go_upto_region 7 with fail
  refine wp_region_held_drew (S := (fun w' => w'.cell? ⟨w.heap.size, 0, none⟩ = some (.int .i64 op) ∧ w'.cell? ⟨w.heap.size, 1, none⟩ = some (.int .u64 x) ∧ w'.cell? ⟨w.heap.size, 2, none⟩ = some (.int .i64 a) ∧ w'.cell? ⟨w.heap.size, 3, none⟩ = some (.int .i64 b) ∧ w'.cell? ⟨w6.heap.size, 0, none⟩ = some (.int .i64 op) ∧ w'.cell? ⟨w6.heap.size, 1, none⟩ = some (.int .u64 x) ∧ w'.cell? ⟨w6.heap.size, 2, none⟩ = some (.int .i64 a) ∧ w'.cell? ⟨w6.heap.size, 3, none⟩ = some (.int .i64 b) ∧ (convert 37 9 (.slice (some ⟨g, 0, none⟩) n cg)).run Try.prog w' = .ok (.string s) w')) (by kernel_rfl) (H7.out _ (b_drew (Below.refl _ _))) (fun hHeld => ?_)
  (refine wpAnyH_take (i := 0) (v := ?_) rfl (by kernel_rfl) (by kernel_rfl) (by kernel_rfl) (fun _ _ _ h => h) (Or.inl ⟨by rfl, ?_⟩) hHeld ?_; rotate_left; (focus (intro w hSw; (try dsimp only at hSw); go_simp; try (with_reducible rfl))); (try simp only [Act.put, List.getElem_toArray, List.getElem_cons_succ, List.getElem_cons_zero, List.setIfInBounds_toArray, List.set_cons_zero, List.set_cons_succ]))
  (refine wpAnyH_take (i := 1) (v := ?_) rfl (by kernel_rfl) (by kernel_rfl) (by kernel_rfl) (fun _ _ _ h => h) (Or.inl ⟨by rfl, ?_⟩) hHeld ?_; rotate_left; (focus (intro w hSw; (try dsimp only at hSw); go_simp; try (with_reducible rfl))); (try simp only [Act.put, List.getElem_toArray, List.getElem_cons_succ, List.getElem_cons_zero, List.setIfInBounds_toArray, List.set_cons_zero, List.set_cons_succ]))
  (refine wpAnyH_take (i := 2) (v := ?_) rfl (by kernel_rfl) (by kernel_rfl) (by kernel_rfl) (fun _ _ _ h => h) (Or.inl ⟨by rfl, ?_⟩) hHeld ?_; rotate_left; (focus (intro w hSw; (try dsimp only at hSw); go_simp; try (with_reducible rfl))); (try simp only [Act.put, List.getElem_toArray, List.getElem_cons_succ, List.getElem_cons_zero, List.setIfInBounds_toArray, List.set_cons_zero, List.set_cons_succ]))
  (refine wpAnyH_take (i := 3) (v := ?_) rfl (by kernel_rfl) (by kernel_rfl) (by kernel_rfl) (fun _ _ _ h => h) (Or.inl ⟨by rfl, ?_⟩) hHeld ?_; rotate_left; (focus (intro w hSw; (try dsimp only at hSw); go_simp; try (with_reducible rfl))); (try simp only [Act.put, List.getElem_toArray, List.getElem_cons_succ, List.getElem_cons_zero, List.setIfInBounds_toArray, List.set_cons_zero, List.set_cons_succ]))
  (refine wpAnyH_take (i := 4) (v := ?_) rfl (by kernel_rfl) (by kernel_rfl) (by kernel_rfl) (fun _ _ _ h => h) (Or.inl ⟨by rfl, ?_⟩) hHeld ?_; rotate_left; (focus (intro w hSw; (try dsimp only at hSw); go_simp; try (with_reducible rfl))); (try simp only [Act.put, List.getElem_toArray, List.getElem_cons_succ, List.getElem_cons_zero, List.setIfInBounds_toArray, List.set_cons_zero, List.set_cons_succ]))
  (refine wpAnyH_take (i := 5) (v := ?_) rfl (by kernel_rfl) (by kernel_rfl) (by kernel_rfl) (fun _ _ _ h => h) (Or.inl ⟨by rfl, ?_⟩) hHeld ?_; rotate_left; (focus (intro w hSw; (try dsimp only at hSw); go_simp; try (with_reducible rfl))); (try simp only [Act.put, List.getElem_toArray, List.getElem_cons_succ, List.getElem_cons_zero, List.setIfInBounds_toArray, List.set_cons_zero, List.set_cons_succ]))
  refine wpAnyH_ready (rs := [6]) (by kernel_rfl) (by simp) (AllReadyH.cons rfl (fun K hK => ?_) AllReadyH.nil)
  go_simp
  refine (HHJ.out _).mono ?_
  rintro e w9 ⟨v9, rfl, own9, hb9⟩
  obtain ⟨g9, cg9, rfl, _, _, hcv9⟩ := conv_own own9 (n := n) HLN.out.symm szp HBB.out
  rw [← HS.out] at hcv9
  have HCV9 := Lib.hid hcv9
  clear own9 hcv9
  refine hK.out _ _ (H7.out _ (by (repeat' (first | exact Below.refl _ _ | assumption | refine b_alloc ?_ _ | refine b_over ?_ _ | refine b_drew ?_ | refine b_call ?_ (by assumption))))) (fun hHeld => ?_)
  clear hK K
  (try simp only [Act.put, List.getElem_toArray, List.getElem_cons_succ, List.getElem_cons_zero, List.setIfInBounds_toArray, List.set_cons_zero, List.set_cons_succ])
  refine wpAnyH_switch (S' := (fun w' => (w'.cell? ⟨w.heap.size, 0, none⟩ = some (.int .i64 op) ∧ w'.cell? ⟨w.heap.size, 1, none⟩ = some (.int .u64 x) ∧ w'.cell? ⟨w.heap.size, 2, none⟩ = some (.int .i64 a) ∧ w'.cell? ⟨w.heap.size, 3, none⟩ = some (.int .i64 b) ∧ w'.cell? ⟨w6.heap.size, 0, none⟩ = some (.int .i64 op) ∧ w'.cell? ⟨w6.heap.size, 1, none⟩ = some (.int .u64 x) ∧ w'.cell? ⟨w6.heap.size, 2, none⟩ = some (.int .i64 a) ∧ w'.cell? ⟨w6.heap.size, 3, none⟩ = some (.int .i64 b) ∧ (convert 37 9 (.slice (some ⟨g, 0, none⟩) n cg)).run Try.prog w' = .ok (.string s) w') ∧ (convert 37 9 (.slice (some ⟨g9, 0, none⟩) n cg9)).run Try.prog w' = .ok (.string s) w')) (fun _ h => h.1) ⟨H7.out _ (by (repeat' (first | exact Below.refl _ _ | assumption | refine b_alloc ?_ _ | refine b_over ?_ _ | refine b_drew ?_ | refine b_call ?_ (by assumption)))), HCV9.out _ (Below.refl _ _)⟩ (fun hHeld => ?_)
  (refine wpAnyH_take (i := 7) (v := ?_) rfl (by kernel_rfl) (by kernel_rfl) (by kernel_rfl) (fun _ _ _ h => h) (Or.inl ⟨by rfl, ?_⟩) hHeld ?_; rotate_left; (focus (intro w hSw; (try dsimp only at hSw); go_simp; try (with_reducible rfl))); (try simp only [Act.put, List.getElem_toArray, List.getElem_cons_succ, List.getElem_cons_zero, List.setIfInBounds_toArray, List.set_cons_zero, List.set_cons_succ]))
  (refine wpAnyH_take (i := 8) (v := ?_) rfl (by kernel_rfl) (by kernel_rfl) (by kernel_rfl) (fun _ _ _ h => h) (Or.inl ⟨by rfl, ?_⟩) hHeld ?_; rotate_left; (focus (intro w hSw; (try dsimp only at hSw); go_simp; try (with_reducible rfl))); (try simp only [Act.put, List.getElem_toArray, List.getElem_cons_succ, List.getElem_cons_zero, List.setIfInBounds_toArray, List.set_cons_zero, List.set_cons_succ]))
  (refine wpAnyH_take (i := 9) (v := ?_) rfl (by kernel_rfl) (by kernel_rfl) (by kernel_rfl) (fun _ _ _ h => h) (Or.inl ⟨by rfl, ?_⟩) hHeld ?_; rotate_left; (focus (intro w hSw; (try dsimp only at hSw); go_simp; try (with_reducible rfl))); (try simp only [Act.put, List.getElem_toArray, List.getElem_cons_succ, List.getElem_cons_zero, List.setIfInBounds_toArray, List.set_cons_zero, List.set_cons_succ]))
  (refine wpAnyH_take (i := 10) (v := ?_) rfl (by kernel_rfl) (by kernel_rfl) (by kernel_rfl) (fun _ _ _ h => h) (Or.inl ⟨by rfl, ?_⟩) hHeld ?_; rotate_left; (focus (intro w hSw; (try dsimp only at hSw); go_simp; try (with_reducible rfl))); (try simp only [Act.put, List.getElem_toArray, List.getElem_cons_succ, List.getElem_cons_zero, List.setIfInBounds_toArray, List.set_cons_zero, List.set_cons_succ]))
  (refine wpAnyH_take (i := 11) (v := ?_) rfl (by kernel_rfl) (by kernel_rfl) (by kernel_rfl) (fun _ _ _ h => h) (Or.inl ⟨by rfl, ?_⟩) hHeld ?_; rotate_left; (focus (intro w hSw; (try dsimp only at hSw); go_simp; try (with_reducible rfl))); (try simp only [Act.put, List.getElem_toArray, List.getElem_cons_succ, List.getElem_cons_zero, List.setIfInBounds_toArray, List.set_cons_zero, List.set_cons_succ]))
  (refine wpAnyH_take (i := 12) (v := ?_) rfl (by kernel_rfl) (by kernel_rfl) (by kernel_rfl) (fun _ _ _ h => h) (Or.inl ⟨by rfl, ?_⟩) hHeld ?_; rotate_left; (focus (intro w hSw; (try dsimp only at hSw); go_simp; try (with_reducible rfl))); (try simp only [Act.put, List.getElem_toArray, List.getElem_cons_succ, List.getElem_cons_zero, List.setIfInBounds_toArray, List.set_cons_zero, List.set_cons_succ]))
  (refine wpAnyH_take (i := 13) (v := ?_) rfl (by kernel_rfl) (by kernel_rfl) (by kernel_rfl) (fun _ _ _ h => h) (Or.inl ⟨by rfl, ?_⟩) hHeld ?_; rotate_left; (focus (intro w hSw; (try dsimp only at hSw); go_simp; try (with_reducible rfl))); (try simp only [Act.put, List.getElem_toArray, List.getElem_cons_succ, List.getElem_cons_zero, List.setIfInBounds_toArray, List.set_cons_zero, List.set_cons_succ]))
  (refine wpAnyH_take (i := 14) (v := ?_) rfl (by kernel_rfl) (by kernel_rfl) (by kernel_rfl) (fun _ _ _ h => h) (Or.inl ⟨by rfl, ?_⟩) hHeld ?_; rotate_left; (focus (intro w hSw; (try dsimp only at hSw); go_simp; try (with_reducible rfl))); (try simp only [Act.put, List.getElem_toArray, List.getElem_cons_succ, List.getElem_cons_zero, List.setIfInBounds_toArray, List.set_cons_zero, List.set_cons_succ]))
  (refine wpAnyH_take (i := 15) (v := ?_) rfl (by kernel_rfl) (by kernel_rfl) (by kernel_rfl) (fun _ _ _ h => h) (Or.inl ⟨by rfl, ?_⟩) hHeld ?_; rotate_left; (focus (intro w hSw; (try dsimp only at hSw); go_simp; try (with_reducible rfl))); (try simp only [Act.put, List.getElem_toArray, List.getElem_cons_succ, List.getElem_cons_zero, List.setIfInBounds_toArray, List.set_cons_zero, List.set_cons_succ]))
  (refine wpAnyH_take (i := 16) (v := ?_) rfl (by kernel_rfl) (by kernel_rfl) (by kernel_rfl) (fun _ _ _ h => h) (Or.inl ⟨by rfl, ?_⟩) hHeld ?_; rotate_left; (focus (intro w hSw; (try dsimp only at hSw); go_simp; try (with_reducible rfl))); (try simp only [Act.put, List.getElem_toArray, List.getElem_cons_succ, List.getElem_cons_zero, List.setIfInBounds_toArray, List.set_cons_zero, List.set_cons_succ]))
  (refine wpAnyH_take (i := 17) (v := ?_) rfl (by kernel_rfl) (by kernel_rfl) (by kernel_rfl) (fun _ _ _ h => h) (Or.inl ⟨by rfl, ?_⟩) hHeld ?_; rotate_left; (focus (intro w hSw; (try dsimp only at hSw); go_simp; try (with_reducible rfl))); (try simp only [Act.put, List.getElem_toArray, List.getElem_cons_succ, List.getElem_cons_zero, List.setIfInBounds_toArray, List.set_cons_zero, List.set_cons_succ]))
  (refine wpAnyH_take (i := 18) (v := ?_) rfl (by kernel_rfl) (by kernel_rfl) (by kernel_rfl) (fun _ _ _ h => h) (Or.inl ⟨by rfl, ?_⟩) hHeld ?_; rotate_left; (focus (intro w hSw; (try dsimp only at hSw); go_simp; try (with_reducible rfl))); (try simp only [Act.put, List.getElem_toArray, List.getElem_cons_succ, List.getElem_cons_zero, List.setIfInBounds_toArray, List.set_cons_zero, List.set_cons_succ]))
  (refine wpAnyH_take (i := 19) (v := ?_) rfl (by kernel_rfl) (by kernel_rfl) (by kernel_rfl) (fun _ _ _ h => h) (Or.inl ⟨by rfl, ?_⟩) hHeld ?_; rotate_left; (focus (intro w hSw; (try dsimp only at hSw); go_simp; try (with_reducible rfl))); (try simp only [Act.put, List.getElem_toArray, List.getElem_cons_succ, List.getElem_cons_zero, List.setIfInBounds_toArray, List.set_cons_zero, List.set_cons_succ]))
  (refine wpAnyH_take (i := 20) (v := ?_) rfl (by kernel_rfl) (by kernel_rfl) (by kernel_rfl) (fun _ _ _ h => h) (Or.inl ⟨by rfl, ?_⟩) hHeld ?_; rotate_left; (focus (intro w hSw; (try dsimp only at hSw); go_simp; try (with_reducible rfl))); (try simp only [Act.put, List.getElem_toArray, List.getElem_cons_succ, List.getElem_cons_zero, List.setIfInBounds_toArray, List.set_cons_zero, List.set_cons_succ]))
  (refine wpAnyH_take (i := 21) (v := ?_) rfl (by kernel_rfl) (by kernel_rfl) (by kernel_rfl) (fun _ _ _ h => h) (Or.inl ⟨by rfl, ?_⟩) hHeld ?_; rotate_left; (focus (intro w hSw; (try dsimp only at hSw); go_simp; try (with_reducible rfl))); (try simp only [Act.put, List.getElem_toArray, List.getElem_cons_succ, List.getElem_cons_zero, List.setIfInBounds_toArray, List.set_cons_zero, List.set_cons_succ]))
  (refine wpAnyH_take (i := 23) (v := ?_) rfl (by kernel_rfl) (by kernel_rfl) (by kernel_rfl) (fun _ _ _ h => h) (Or.inl ⟨by rfl, ?_⟩) hHeld ?_; rotate_left; (focus (intro w hSw; (try dsimp only at hSw); go_simp; try (with_reducible rfl))); (try simp only [Act.put, List.getElem_toArray, List.getElem_cons_succ, List.getElem_cons_zero, List.setIfInBounds_toArray, List.set_cons_zero, List.set_cons_succ]))
  refine wpAnyH_ready (rs := [22]) (by kernel_rfl) (by simp) (AllReadyH.cons rfl (fun K hK => ?_) AllReadyH.nil)
  go_simp
  refine (plain_any _ _ _ _ _).mono ?_
  rintro e w10 ⟨rfl, hb10⟩
  refine hK.out _ _ (⟨H7.out _ (by (repeat' (first | exact Below.refl _ _ | assumption | refine b_alloc ?_ _ | refine b_over ?_ _ | refine b_drew ?_ | refine b_call ?_ (by assumption)))), HCV9.out _ (by (repeat' (first | exact Below.refl _ _ | assumption | refine b_alloc ?_ _ | refine b_over ?_ _ | refine b_drew ?_ | refine b_call ?_ (by assumption))))⟩) (fun hHeld => ?_)
  clear hK K
  (try simp only [Act.put, List.getElem_toArray, List.getElem_cons_succ, List.getElem_cons_zero, List.setIfInBounds_toArray, List.set_cons_zero, List.set_cons_succ])
  (refine wpAnyH_take (i := 24) (v := ?_) rfl (by kernel_rfl) (by kernel_rfl) (by kernel_rfl) (fun _ _ _ h => h) (Or.inl ⟨by rfl, ?_⟩) hHeld ?_; rotate_left; (focus (intro w hSw; (try dsimp only at hSw); go_simp; try (with_reducible rfl))); (try simp only [Act.put, List.getElem_toArray, List.getElem_cons_succ, List.getElem_cons_zero, List.setIfInBounds_toArray, List.set_cons_zero, List.set_cons_succ]))
  (refine wpAnyH_take (i := 25) (v := ?_) rfl (by kernel_rfl) (by kernel_rfl) (by kernel_rfl) (fun _ _ _ h => h) (Or.inl ⟨by rfl, ?_⟩) hHeld ?_; rotate_left; (focus (intro w hSw; (try dsimp only at hSw); go_simp; try (with_reducible rfl))); (try simp only [Act.put, List.getElem_toArray, List.getElem_cons_succ, List.getElem_cons_zero, List.setIfInBounds_toArray, List.set_cons_zero, List.set_cons_succ]))
  (refine wpAnyH_take (i := 26) (v := ?_) rfl (by kernel_rfl) (by kernel_rfl) (by kernel_rfl) (fun _ _ _ h => h) (Or.inl ⟨by rfl, ?_⟩) hHeld ?_; rotate_left; (focus (intro w hSw; (try dsimp only at hSw); go_simp; try (with_reducible rfl))); (try simp only [Act.put, List.getElem_toArray, List.getElem_cons_succ, List.getElem_cons_zero, List.setIfInBounds_toArray, List.set_cons_zero, List.set_cons_succ]))
  refine wpAnyH_ready (rs := [27]) (by kernel_rfl) (by simp) (AllReadyH.cons rfl (fun K hK => ?_) AllReadyH.nil)
  go_simp
  refine (awake24 _).mono ?_
  rintro e w11 ⟨rfl, hb11⟩
  refine hK.out _ _ (⟨H7.out _ (by (repeat' (first | exact Below.refl _ _ | assumption | refine b_alloc ?_ _ | refine b_over ?_ _ | refine b_drew ?_ | refine b_call ?_ (by assumption)))), HCV9.out _ (by (repeat' (first | exact Below.refl _ _ | assumption | refine b_alloc ?_ _ | refine b_over ?_ _ | refine b_drew ?_ | refine b_call ?_ (by assumption))))⟩) (fun hHeld => ?_)
  clear hK K
  (try simp only [Act.put, List.getElem_toArray, List.getElem_cons_succ, List.getElem_cons_zero, List.setIfInBounds_toArray, List.set_cons_zero, List.set_cons_succ])
  (refine wpAnyH_take (i := 28) (v := ?_) rfl (by kernel_rfl) (by kernel_rfl) (by kernel_rfl) (fun _ _ _ h => h) (Or.inl ⟨by rfl, ?_⟩) hHeld ?_; rotate_left; (focus (intro w hSw; (try dsimp only at hSw); go_simp; try (with_reducible rfl))); (try simp only [Act.put, List.getElem_toArray, List.getElem_cons_succ, List.getElem_cons_zero, List.setIfInBounds_toArray, List.set_cons_zero, List.set_cons_succ]))
  (refine wpAnyH_take (i := 29) (v := ?_) rfl (by kernel_rfl) (by kernel_rfl) (by kernel_rfl) (fun _ _ _ h => h) (Or.inl ⟨by rfl, ?_⟩) hHeld ?_; rotate_left; (focus (intro w hSw; (try dsimp only at hSw); go_simp; try (with_reducible rfl))); (try simp only [Act.put, List.getElem_toArray, List.getElem_cons_succ, List.getElem_cons_zero, List.setIfInBounds_toArray, List.set_cons_zero, List.set_cons_succ]))
  refine wpAnyH_done (by kernel_rfl) ?_ _
  go_wp2
  go_ret
  exact ⟨rfl, by (repeat' (first | exact B3z | assumption | refine b_alloc ?_ _ | refine b_drew ?_ | refine b_call ?_ (by assumption)))⟩
set_option maxHeartbeats 4000000 in
theorem instrBytes_short (op x a b : Int) (u : Value) (xs : List Int) (w : World) (hx : 0 ≤ x) (hx2 : x < 18446744073709551616) (h : ReadB w u xs) (hb : IsBytes xs) (hm : mayB op x a b = true) (hlen : xs.length ≤ 20) : Calls Try.prog 4 #[.agg #[.int .i64 op, .int .u64 x, .int .i64 a, .int .i64 b], u] w fun e w' => e = .returned (.bool true) ∧ Below w.heap.size w w' := by
  obtain ⟨c, cap, rfl⟩ := readB_len h
  have t20 : decide (20 < (xs.length : Int)) = false := by rw [decide_eq_false_iff_not]; omega
  have HR := Lib.hid h; have HBY := Lib.hid hb; have HY := Lib.hid hlen
  clear h hb hlen
  have hB : Below w.heap.size w (w.alloc (.cells #[.int .i64 op, .int .u64 x, .int .i64 a, .int .i64 b] 24)) := b_alloc (Below.refl _ _) _
  obtain ⟨pa, pb⟩ := may_arg hm
  obtain ⟨e1, e2, e3, e4, e5⟩ := bytes_back hm hx hx2 xs
  have hlen' := bytesI_sz op x a b
  have hbb := isBytes_bytesI op x a b
  have szl : szR op ≤ 13 := by unfold szR; rcases kinds op with ⟨_, k2, k3⟩ | ⟨_, k2, k3⟩ | ⟨_, k2, k3⟩ | ⟨_, k2, k3⟩ | ⟨_, k2, k3⟩ <;> rw [k2, k3] <;> decide
  have szp := szR_pos2 op
  obtain ⟨n, hn⟩ : ∃ n, n = szR op := ⟨_, rfl⟩
  obtain ⟨L, hL⟩ : ∃ L, L = bytesI op x a b := ⟨_, rfl⟩
  have HI := fun (w : World) => ibytes_some op x a b w hm hx hx2
  have HJ := fun (w : World) => rbytes_any op x a b w hx hx2 pa pb
  rw [← hn] at hlen' szl szp
  rw [← hL] at e1 e2 e3 e4 e5 hlen' hbb HI HJ
  have HM := Lib.hid hm; have E1 := Lib.hid e1; have E2 := Lib.hid e2; have E3 := Lib.hid e3; have E4 := Lib.hid e4; have E5 := Lib.hid e5; have HLN := Lib.hid hlen'; have HBB := Lib.hid hbb; have HN := Lib.hid hn; have HHI := Lib.hid HI; have HHJ := Lib.hid HJ
  clear hm hx hx2 pa pb e1 e2 e3 e4 e5 hlen' hbb hn hL HI HJ
  go_enter Try.func4, Try.ntmps4
  go_wp2_with fail
  refine (ours_any _ _ _ _ _).mono ?_
  rintro e w1 ⟨rfl, hb1⟩
  go_wp2_with fail
  refine (HHI.out _).mono ?_
  rintro e w2 ⟨v, rfl, own, hb2⟩
  have hb2' := b_call hb1 hb2
  obtain ⟨g, cg, rfl, gl, gB, hcv⟩ := conv_own own (n := n) HLN.out.symm szp HBB.out
  obtain ⟨s, hs⟩ : ∃ s, s = bytesOf L := ⟨_, rfl⟩
  rw [← hs] at hcv
  have HS := Lib.hid hs; have HCV := Lib.hid hcv
  have HOWN := Lib.hid own
  clear hs hcv own
  obtain ⟨c0, c1, c2, c3, cf⟩ := blk4 (blk_born hb2')
  go_wp2_with fail
  refine (rmay_any _ _ _ _ _).mono ?_
  rintro e w3 ⟨rfl, hb3⟩
  rw [HM.out]
  have hb3' := b_call hb2' hb3
  have hB3 := b_call hB hb3'
  have own3 := ownB_below HOWN.out hb3
  clear c0 c1 c2 c3 cf
  go_wp2_with ((first | (at_builtin; refine appendB rfl _ _ rfl w3.heap.size _ [] rfl (own_emptyB (Nat.le_refl _)) _ L rfl (readB_below (ownB_read own3) (b_alloc (Below.refl _ _) _)) ?c1 ?c2 ?_; (case c1 => (rw [HLN.out]; simp only [List.length_nil]; omega)); (case c2 => (simp)); intro v4 w4 own4 hg4; have hb4 := b_ownB (b_alloc (Below.refl w3.heap.size w3) _) (own_emptyB (Nat.le_refl _)) hg4; rw [List.nil_append] at own4; clear own3) | (at_builtin; refine appendB rfl _ _ rfl w3.heap.size _ L rfl own4 _ xs rfl (readB_below HR.out (b_call hB3 hb4)) ?c3 ?c4 ?_; (case c3 => (rw [HLN.out]; have := HY.out; omega)); (case c4 => (exact hb4.size)); intro v5 w5 own5 hg5; have hb5 := b_ownB hb4 own4 hg5)))
  have r5 := ownB_read own5
  clear own4 own5 hg4 hg5 hb4
  refine (iread_ok _ _ _ r5 (isBytes_append HBB.out HBY.out) (by rw [List.length_append, HLN.out]; have := HY.out; omega) E1.out).mono ?_
  rintro e w6 ⟨rfl, hb6⟩
  rw [E2.out, E3.out, E4.out, E5.out, ← HN.out]
  unfold instV
  have hb6' := b_call hb5 hb6
  have zz := hb6'.size
  have hb7 := b_alloc (b_call hb3' hb6') (.cells #[.int .i64 op, .int .u64 x, .int .i64 a, .int .i64 b] 32)
  have B7 := blk_born hb7
  have G7 := blk_new w6 #[.int .i64 op, .int .u64 x, .int .i64 a, .int .i64 b] 32
  have H7 : Hid (∀ w', Below (w6.alloc (.cells #[.int .i64 op, .int .u64 x, .int .i64 a, .int .i64 b] 32)).heap.size (w6.alloc (.cells #[.int .i64 op, .int .u64 x, .int .i64 a, .int .i64 b] 32)) w' → (w'.cell? ⟨w.heap.size, 0, none⟩ = some (.int .i64 op) ∧ w'.cell? ⟨w.heap.size, 1, none⟩ = some (.int .u64 x) ∧ w'.cell? ⟨w.heap.size, 2, none⟩ = some (.int .i64 a) ∧ w'.cell? ⟨w.heap.size, 3, none⟩ = some (.int .i64 b) ∧ w'.cell? ⟨w6.heap.size, 0, none⟩ = some (.int .i64 op) ∧ w'.cell? ⟨w6.heap.size, 1, none⟩ = some (.int .u64 x) ∧ w'.cell? ⟨w6.heap.size, 2, none⟩ = some (.int .i64 a) ∧ w'.cell? ⟨w6.heap.size, 3, none⟩ = some (.int .i64 b) ∧ (convert 37 9 (.slice (some ⟨g, 0, none⟩) n cg)).run Try.prog w' = .ok (.string s) w')) := Lib.hid (fun w' hb => by
    obtain ⟨p0, p1, p2, p3, _⟩ := blk4 (blk_below B7 hb)
    obtain ⟨q0, q1, q2, q3, _⟩ := blk4 (blk_below G7 hb)
    exact ⟨p0, p1, p2, p3, q0, q1, q2, q3, HCV.out _ (b_call (b_alloc (b_call hb3 hb6') _) hb)⟩)
  have B3z := b_call (b_alloc (b_call hB3 hb6') (.cells #[.int .i64 op, .int .u64 x, .int .i64 a, .int .i64 b] 32)) (Below.refl _ _)
  clear B7 G7 r5 gB gl
  go_upto_region 7 with fail
  refine wp_region_held_drew (S := (fun w' => w'.cell? ⟨w.heap.size, 0, none⟩ = some (.int .i64 op) ∧ w'.cell? ⟨w.heap.size, 1, none⟩ = some (.int .u64 x) ∧ w'.cell? ⟨w.heap.size, 2, none⟩ = some (.int .i64 a) ∧ w'.cell? ⟨w.heap.size, 3, none⟩ = some (.int .i64 b) ∧ w'.cell? ⟨w6.heap.size, 0, none⟩ = some (.int .i64 op) ∧ w'.cell? ⟨w6.heap.size, 1, none⟩ = some (.int .u64 x) ∧ w'.cell? ⟨w6.heap.size, 2, none⟩ = some (.int .i64 a) ∧ w'.cell? ⟨w6.heap.size, 3, none⟩ = some (.int .i64 b) ∧ (convert 37 9 (.slice (some ⟨g, 0, none⟩) n cg)).run Try.prog w' = .ok (.string s) w')) (by kernel_rfl) (H7.out _ (b_drew (Below.refl _ _))) (fun hHeld => ?_)
  (refine wpAnyH_take (i := 0) (v := ?_) rfl (by kernel_rfl) (by kernel_rfl) (by kernel_rfl) (fun _ _ _ h => h) (Or.inl ⟨by rfl, ?_⟩) hHeld ?_; rotate_left; (focus (intro w hSw; (try dsimp only at hSw); go_simp; try (with_reducible rfl))); (try simp only [Act.put, List.getElem_toArray, List.getElem_cons_succ, List.getElem_cons_zero, List.setIfInBounds_toArray, List.set_cons_zero, List.set_cons_succ]))
  (refine wpAnyH_take (i := 1) (v := ?_) rfl (by kernel_rfl) (by kernel_rfl) (by kernel_rfl) (fun _ _ _ h => h) (Or.inl ⟨by rfl, ?_⟩) hHeld ?_; rotate_left; (focus (intro w hSw; (try dsimp only at hSw); go_simp; try (with_reducible rfl))); (try simp only [Act.put, List.getElem_toArray, List.getElem_cons_succ, List.getElem_cons_zero, List.setIfInBounds_toArray, List.set_cons_zero, List.set_cons_succ]))
  (refine wpAnyH_take (i := 2) (v := ?_) rfl (by kernel_rfl) (by kernel_rfl) (by kernel_rfl) (fun _ _ _ h => h) (Or.inl ⟨by rfl, ?_⟩) hHeld ?_; rotate_left; (focus (intro w hSw; (try dsimp only at hSw); go_simp; try (with_reducible rfl))); (try simp only [Act.put, List.getElem_toArray, List.getElem_cons_succ, List.getElem_cons_zero, List.setIfInBounds_toArray, List.set_cons_zero, List.set_cons_succ]))
  (refine wpAnyH_take (i := 3) (v := ?_) rfl (by kernel_rfl) (by kernel_rfl) (by kernel_rfl) (fun _ _ _ h => h) (Or.inl ⟨by rfl, ?_⟩) hHeld ?_; rotate_left; (focus (intro w hSw; (try dsimp only at hSw); go_simp; try (with_reducible rfl))); (try simp only [Act.put, List.getElem_toArray, List.getElem_cons_succ, List.getElem_cons_zero, List.setIfInBounds_toArray, List.set_cons_zero, List.set_cons_succ]))
  (refine wpAnyH_take (i := 4) (v := ?_) rfl (by kernel_rfl) (by kernel_rfl) (by kernel_rfl) (fun _ _ _ h => h) (Or.inl ⟨by rfl, ?_⟩) hHeld ?_; rotate_left; (focus (intro w hSw; (try dsimp only at hSw); go_simp; try (with_reducible rfl))); (try simp only [Act.put, List.getElem_toArray, List.getElem_cons_succ, List.getElem_cons_zero, List.setIfInBounds_toArray, List.set_cons_zero, List.set_cons_succ]))
  (refine wpAnyH_take (i := 5) (v := ?_) rfl (by kernel_rfl) (by kernel_rfl) (by kernel_rfl) (fun _ _ _ h => h) (Or.inl ⟨by rfl, ?_⟩) hHeld ?_; rotate_left; (focus (intro w hSw; (try dsimp only at hSw); go_simp; try (with_reducible rfl))); (try simp only [Act.put, List.getElem_toArray, List.getElem_cons_succ, List.getElem_cons_zero, List.setIfInBounds_toArray, List.set_cons_zero, List.set_cons_succ]))
  refine wpAnyH_ready (rs := [6]) (by kernel_rfl) (by simp) (AllReadyH.cons rfl (fun K hK => ?_) AllReadyH.nil)
  go_simp
  refine (HHJ.out _).mono ?_
  rintro e w9 ⟨v9, rfl, own9, hb9⟩
  obtain ⟨g9, cg9, rfl, _, _, hcv9⟩ := conv_own own9 (n := n) HLN.out.symm szp HBB.out
  rw [← HS.out] at hcv9
  have HCV9 := Lib.hid hcv9
  clear own9 hcv9
  refine hK.out _ _ (H7.out _ (by (repeat' (first | exact Below.refl _ _ | assumption | refine b_alloc ?_ _ | refine b_over ?_ _ | refine b_drew ?_ | refine b_call ?_ (by assumption))))) (fun hHeld => ?_)
  clear hK K
  (try simp only [Act.put, List.getElem_toArray, List.getElem_cons_succ, List.getElem_cons_zero, List.setIfInBounds_toArray, List.set_cons_zero, List.set_cons_succ])
  refine wpAnyH_switch (S' := (fun w' => (w'.cell? ⟨w.heap.size, 0, none⟩ = some (.int .i64 op) ∧ w'.cell? ⟨w.heap.size, 1, none⟩ = some (.int .u64 x) ∧ w'.cell? ⟨w.heap.size, 2, none⟩ = some (.int .i64 a) ∧ w'.cell? ⟨w.heap.size, 3, none⟩ = some (.int .i64 b) ∧ w'.cell? ⟨w6.heap.size, 0, none⟩ = some (.int .i64 op) ∧ w'.cell? ⟨w6.heap.size, 1, none⟩ = some (.int .u64 x) ∧ w'.cell? ⟨w6.heap.size, 2, none⟩ = some (.int .i64 a) ∧ w'.cell? ⟨w6.heap.size, 3, none⟩ = some (.int .i64 b) ∧ (convert 37 9 (.slice (some ⟨g, 0, none⟩) n cg)).run Try.prog w' = .ok (.string s) w') ∧ (convert 37 9 (.slice (some ⟨g9, 0, none⟩) n cg9)).run Try.prog w' = .ok (.string s) w')) (fun _ h => h.1) ⟨H7.out _ (by (repeat' (first | exact Below.refl _ _ | assumption | refine b_alloc ?_ _ | refine b_over ?_ _ | refine b_drew ?_ | refine b_call ?_ (by assumption)))), HCV9.out _ (Below.refl _ _)⟩ (fun hHeld => ?_)
  (refine wpAnyH_take (i := 7) (v := ?_) rfl (by kernel_rfl) (by kernel_rfl) (by kernel_rfl) (fun _ _ _ h => h) (Or.inl ⟨by rfl, ?_⟩) hHeld ?_; rotate_left; (focus (intro w hSw; (try dsimp only at hSw); go_simp; try (with_reducible rfl))); (try simp only [Act.put, List.getElem_toArray, List.getElem_cons_succ, List.getElem_cons_zero, List.setIfInBounds_toArray, List.set_cons_zero, List.set_cons_succ]))
  (refine wpAnyH_take (i := 8) (v := ?_) rfl (by kernel_rfl) (by kernel_rfl) (by kernel_rfl) (fun _ _ _ h => h) (Or.inl ⟨by rfl, ?_⟩) hHeld ?_; rotate_left; (focus (intro w hSw; (try dsimp only at hSw); go_simp; try (with_reducible rfl))); (try simp only [Act.put, List.getElem_toArray, List.getElem_cons_succ, List.getElem_cons_zero, List.setIfInBounds_toArray, List.set_cons_zero, List.set_cons_succ]))
  (refine wpAnyH_take (i := 9) (v := ?_) rfl (by kernel_rfl) (by kernel_rfl) (by kernel_rfl) (fun _ _ _ h => h) (Or.inl ⟨by rfl, ?_⟩) hHeld ?_; rotate_left; (focus (intro w hSw; (try dsimp only at hSw); go_simp; try (with_reducible rfl))); (try simp only [Act.put, List.getElem_toArray, List.getElem_cons_succ, List.getElem_cons_zero, List.setIfInBounds_toArray, List.set_cons_zero, List.set_cons_succ]))
  (refine wpAnyH_take (i := 10) (v := ?_) rfl (by kernel_rfl) (by kernel_rfl) (by kernel_rfl) (fun _ _ _ h => h) (Or.inl ⟨by rfl, ?_⟩) hHeld ?_; rotate_left; (focus (intro w hSw; (try dsimp only at hSw); go_simp; try (with_reducible rfl))); (try simp only [Act.put, List.getElem_toArray, List.getElem_cons_succ, List.getElem_cons_zero, List.setIfInBounds_toArray, List.set_cons_zero, List.set_cons_succ]))
  (refine wpAnyH_take (i := 11) (v := ?_) rfl (by kernel_rfl) (by kernel_rfl) (by kernel_rfl) (fun _ _ _ h => h) (Or.inl ⟨by rfl, ?_⟩) hHeld ?_; rotate_left; (focus (intro w hSw; (try dsimp only at hSw); go_simp; try (with_reducible rfl))); (try simp only [Act.put, List.getElem_toArray, List.getElem_cons_succ, List.getElem_cons_zero, List.setIfInBounds_toArray, List.set_cons_zero, List.set_cons_succ]))
  (refine wpAnyH_take (i := 12) (v := ?_) rfl (by kernel_rfl) (by kernel_rfl) (by kernel_rfl) (fun _ _ _ h => h) (Or.inl ⟨by rfl, ?_⟩) hHeld ?_; rotate_left; (focus (intro w hSw; (try dsimp only at hSw); go_simp; try (with_reducible rfl))); (try simp only [Act.put, List.getElem_toArray, List.getElem_cons_succ, List.getElem_cons_zero, List.setIfInBounds_toArray, List.set_cons_zero, List.set_cons_succ]))
  (refine wpAnyH_take (i := 13) (v := ?_) rfl (by kernel_rfl) (by kernel_rfl) (by kernel_rfl) (fun _ _ _ h => h) (Or.inl ⟨by rfl, ?_⟩) hHeld ?_; rotate_left; (focus (intro w hSw; (try dsimp only at hSw); go_simp; try (with_reducible rfl))); (try simp only [Act.put, List.getElem_toArray, List.getElem_cons_succ, List.getElem_cons_zero, List.setIfInBounds_toArray, List.set_cons_zero, List.set_cons_succ]))
  (refine wpAnyH_take (i := 14) (v := ?_) rfl (by kernel_rfl) (by kernel_rfl) (by kernel_rfl) (fun _ _ _ h => h) (Or.inl ⟨by rfl, ?_⟩) hHeld ?_; rotate_left; (focus (intro w hSw; (try dsimp only at hSw); go_simp; try (with_reducible rfl))); (try simp only [Act.put, List.getElem_toArray, List.getElem_cons_succ, List.getElem_cons_zero, List.setIfInBounds_toArray, List.set_cons_zero, List.set_cons_succ]))
  (refine wpAnyH_take (i := 15) (v := ?_) rfl (by kernel_rfl) (by kernel_rfl) (by kernel_rfl) (fun _ _ _ h => h) (Or.inl ⟨by rfl, ?_⟩) hHeld ?_; rotate_left; (focus (intro w hSw; (try dsimp only at hSw); go_simp; try (with_reducible rfl))); (try simp only [Act.put, List.getElem_toArray, List.getElem_cons_succ, List.getElem_cons_zero, List.setIfInBounds_toArray, List.set_cons_zero, List.set_cons_succ]))
  (refine wpAnyH_take (i := 16) (v := ?_) rfl (by kernel_rfl) (by kernel_rfl) (by kernel_rfl) (fun _ _ _ h => h) (Or.inl ⟨by rfl, ?_⟩) hHeld ?_; rotate_left; (focus (intro w hSw; (try dsimp only at hSw); go_simp; try (with_reducible rfl))); (try simp only [Act.put, List.getElem_toArray, List.getElem_cons_succ, List.getElem_cons_zero, List.setIfInBounds_toArray, List.set_cons_zero, List.set_cons_succ]))
  (refine wpAnyH_take (i := 17) (v := ?_) rfl (by kernel_rfl) (by kernel_rfl) (by kernel_rfl) (fun _ _ _ h => h) (Or.inl ⟨by rfl, ?_⟩) hHeld ?_; rotate_left; (focus (intro w hSw; (try dsimp only at hSw); go_simp; try (with_reducible rfl))); (try simp only [Act.put, List.getElem_toArray, List.getElem_cons_succ, List.getElem_cons_zero, List.setIfInBounds_toArray, List.set_cons_zero, List.set_cons_succ]))
  (refine wpAnyH_take (i := 18) (v := ?_) rfl (by kernel_rfl) (by kernel_rfl) (by kernel_rfl) (fun _ _ _ h => h) (Or.inl ⟨by rfl, ?_⟩) hHeld ?_; rotate_left; (focus (intro w hSw; (try dsimp only at hSw); go_simp; try (with_reducible rfl))); (try simp only [Act.put, List.getElem_toArray, List.getElem_cons_succ, List.getElem_cons_zero, List.setIfInBounds_toArray, List.set_cons_zero, List.set_cons_succ]))
  (refine wpAnyH_take (i := 19) (v := ?_) rfl (by kernel_rfl) (by kernel_rfl) (by kernel_rfl) (fun _ _ _ h => h) (Or.inl ⟨by rfl, ?_⟩) hHeld ?_; rotate_left; (focus (intro w hSw; (try dsimp only at hSw); go_simp; try (with_reducible rfl))); (try simp only [Act.put, List.getElem_toArray, List.getElem_cons_succ, List.getElem_cons_zero, List.setIfInBounds_toArray, List.set_cons_zero, List.set_cons_succ]))
  (refine wpAnyH_take (i := 20) (v := ?_) rfl (by kernel_rfl) (by kernel_rfl) (by kernel_rfl) (fun _ _ _ h => h) (Or.inl ⟨by rfl, ?_⟩) hHeld ?_; rotate_left; (focus (intro w hSw; (try dsimp only at hSw); go_simp; try (with_reducible rfl))); (try simp only [Act.put, List.getElem_toArray, List.getElem_cons_succ, List.getElem_cons_zero, List.setIfInBounds_toArray, List.set_cons_zero, List.set_cons_succ]))
  (refine wpAnyH_take (i := 21) (v := ?_) rfl (by kernel_rfl) (by kernel_rfl) (by kernel_rfl) (fun _ _ _ h => h) (Or.inl ⟨by rfl, ?_⟩) hHeld ?_; rotate_left; (focus (intro w hSw; (try dsimp only at hSw); go_simp; try (with_reducible rfl))); (try simp only [Act.put, List.getElem_toArray, List.getElem_cons_succ, List.getElem_cons_zero, List.setIfInBounds_toArray, List.set_cons_zero, List.set_cons_succ]))
  (refine wpAnyH_take (i := 23) (v := ?_) rfl (by kernel_rfl) (by kernel_rfl) (by kernel_rfl) (fun _ _ _ h => h) (Or.inl ⟨by rfl, ?_⟩) hHeld ?_; rotate_left; (focus (intro w hSw; (try dsimp only at hSw); go_simp; try (with_reducible rfl))); (try simp only [Act.put, List.getElem_toArray, List.getElem_cons_succ, List.getElem_cons_zero, List.setIfInBounds_toArray, List.set_cons_zero, List.set_cons_succ]))
  refine wpAnyH_ready (rs := [22]) (by kernel_rfl) (by simp) (AllReadyH.cons rfl (fun K hK => ?_) AllReadyH.nil)
  go_simp
  refine (plain_any _ _ _ _ _).mono ?_
  rintro e w10 ⟨rfl, hb10⟩
  refine hK.out _ _ (⟨H7.out _ (by (repeat' (first | exact Below.refl _ _ | assumption | refine b_alloc ?_ _ | refine b_over ?_ _ | refine b_drew ?_ | refine b_call ?_ (by assumption)))), HCV9.out _ (by (repeat' (first | exact Below.refl _ _ | assumption | refine b_alloc ?_ _ | refine b_over ?_ _ | refine b_drew ?_ | refine b_call ?_ (by assumption))))⟩) (fun hHeld => ?_)
  clear hK K
  (try simp only [Act.put, List.getElem_toArray, List.getElem_cons_succ, List.getElem_cons_zero, List.setIfInBounds_toArray, List.set_cons_zero, List.set_cons_succ])
  (refine wpAnyH_take (i := 24) (v := ?_) rfl (by kernel_rfl) (by kernel_rfl) (by kernel_rfl) (fun _ _ _ h => h) (Or.inl ⟨by rfl, ?_⟩) hHeld ?_; rotate_left; (focus (intro w hSw; (try dsimp only at hSw); go_simp; try (with_reducible rfl))); (try simp only [Act.put, List.getElem_toArray, List.getElem_cons_succ, List.getElem_cons_zero, List.setIfInBounds_toArray, List.set_cons_zero, List.set_cons_succ]))
  (refine wpAnyH_take (i := 25) (v := ?_) rfl (by kernel_rfl) (by kernel_rfl) (by kernel_rfl) (fun _ _ _ h => h) (Or.inl ⟨by rfl, ?_⟩) hHeld ?_; rotate_left; (focus (intro w hSw; (try dsimp only at hSw); go_simp; try (with_reducible rfl))); (try simp only [Act.put, List.getElem_toArray, List.getElem_cons_succ, List.getElem_cons_zero, List.setIfInBounds_toArray, List.set_cons_zero, List.set_cons_succ]))
  (refine wpAnyH_take (i := 26) (v := ?_) rfl (by kernel_rfl) (by kernel_rfl) (by kernel_rfl) (fun _ _ _ h => h) (Or.inl ⟨by rfl, ?_⟩) hHeld ?_; rotate_left; (focus (intro w hSw; (try dsimp only at hSw); go_simp; try (with_reducible rfl))); (try simp only [Act.put, List.getElem_toArray, List.getElem_cons_succ, List.getElem_cons_zero, List.setIfInBounds_toArray, List.set_cons_zero, List.set_cons_succ]))
  refine wpAnyH_ready (rs := [27]) (by kernel_rfl) (by simp) (AllReadyH.cons rfl (fun K hK => ?_) AllReadyH.nil)
  go_simp
  refine (awake24 _).mono ?_
  rintro e w11 ⟨rfl, hb11⟩
  refine hK.out _ _ (⟨H7.out _ (by (repeat' (first | exact Below.refl _ _ | assumption | refine b_alloc ?_ _ | refine b_over ?_ _ | refine b_drew ?_ | refine b_call ?_ (by assumption)))), HCV9.out _ (by (repeat' (first | exact Below.refl _ _ | assumption | refine b_alloc ?_ _ | refine b_over ?_ _ | refine b_drew ?_ | refine b_call ?_ (by assumption))))⟩) (fun hHeld => ?_)
  clear hK K
  (try simp only [Act.put, List.getElem_toArray, List.getElem_cons_succ, List.getElem_cons_zero, List.setIfInBounds_toArray, List.set_cons_zero, List.set_cons_succ])
  (refine wpAnyH_take (i := 28) (v := ?_) rfl (by kernel_rfl) (by kernel_rfl) (by kernel_rfl) (fun _ _ _ h => h) (Or.inl ⟨by rfl, ?_⟩) hHeld ?_; rotate_left; (focus (intro w hSw; (try dsimp only at hSw); go_simp; try (with_reducible rfl))); (try simp only [Act.put, List.getElem_toArray, List.getElem_cons_succ, List.getElem_cons_zero, List.setIfInBounds_toArray, List.set_cons_zero, List.set_cons_succ]))
  (refine wpAnyH_take (i := 29) (v := ?_) rfl (by kernel_rfl) (by kernel_rfl) (by kernel_rfl) (fun _ _ _ h => h) (Or.inl ⟨by rfl, ?_⟩) hHeld ?_; rotate_left; (focus (intro w hSw; (try dsimp only at hSw); go_simp; try (with_reducible rfl))); (try simp only [Act.put, List.getElem_toArray, List.getElem_cons_succ, List.getElem_cons_zero, List.setIfInBounds_toArray, List.set_cons_zero, List.set_cons_succ]))
  refine wpAnyH_done (by kernel_rfl) ?_ _
  go_wp2
  go_ret
  exact ⟨rfl, by (repeat' (first | exact B3z | assumption | refine b_alloc ?_ _ | refine b_drew ?_ | refine b_call ?_ (by assumption)))⟩
theorem instrBytes_any (op x a b : Int) (u : Value) (xs : List Int) (w : World) (ho : -9223372036854775808 ≤ op ∧ op ≤ 9223372036854775807) (hx : 0 ≤ x ∧ x ≤ 18446744073709551615) (ha : -9223372036854775808 ≤ a ∧ a ≤ 9223372036854775807) (hb : -9223372036854775808 ≤ b ∧ b ≤ 9223372036854775807) (h : ReadB w u xs) (hby : IsBytes xs) : Calls Try.prog 4 #[.agg #[.int .i64 op, .int .u64 x, .int .i64 a, .int .i64 b], u] w fun e w' => e = .returned (.bool true) ∧ Below w.heap.size w w' := by
  cases hm : mayB op x a b with
  | false => exact instrBytes_no op x a b u w hm
  | true =>
    rcases Nat.lt_or_ge 20 xs.length with q | q
    · exact instrBytes_long op x a b u xs w hx.1 (by omega) h hby hm q
    · exact instrBytes_short op x a b u xs w hx.1 (by omega) h hby hm q
end Go.Proofs.Ytdhkemnebppkhaa
