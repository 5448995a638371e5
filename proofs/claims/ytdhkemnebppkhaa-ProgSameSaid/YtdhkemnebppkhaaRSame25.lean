/- Layer 25: the document's Same, of two programs that are the same and may be. Conditions: they read as that program. -/
import Derived.Test.YtdhkemnebppkhaaRByt25
import Derived.Test.YtdhkemnebppkhaaInstrBytesAll
namespace Go.Proofs.Ytdhkemnebppkhaa
open Go.RowKit
set_option linter.unusedVariables false
set_option linter.unusedSimpArgs false
attribute [local go_sem] over_cell over_frozen
theorem isBytes_mod (l : List Int) : IsBytes (l.map (· % 256)) := fun x hx => by
  obtain ⟨y, _, rfl⟩ := List.mem_map.1 hx; omega
theorem isBytes_lstB (l : List Int) : IsBytes (lstB l) := by
  unfold lstB
  exact isBytes_append (fun x hx => by simp only [List.mem_singleton] at hx; omega) (isBytes_mod l)
theorem isBytes_flat {α : Type} {f : α → List Int} : ∀ {L : List α} (_ : ∀ x ∈ L, IsBytes (f x)), IsBytes (L.flatMap f)
  | [], _ => isBytes_nil
  | x :: l, h => by rw [List.flatMap_cons]; exact isBytes_append (h x (List.mem_cons_self ..)) (isBytes_flat (fun y hy => h y (List.mem_cons_of_mem _ hy)))
theorem isBytes_bytF (f : FnM) : IsBytes (bytF f) := by
  unfold bytF
  refine isBytes_append (isBytes_append (isBytes_append (isBytes_lstB _) (isBytes_lstB _)) (fun x hx => ?_)) (isBytes_flat (fun i _ => isBytes_bytesI _ _ _ _))
  simp only [List.mem_cons, List.not_mem_nil, or_false] at hx
  omega
theorem isBytes_bytP (p : PrM) : IsBytes (bytP p) := by
  unfold bytP headP
  refine isBytes_append (isBytes_append (isBytes_append (fun x hx => ?_) (isBytes_lstB _)) (fun x hx => ?_)) (isBytes_flat (fun f _ => isBytes_bytF f))
  · simp only [List.mem_cons, List.not_mem_nil, or_false] at hx
    split at hx <;> omega
  · simp only [List.mem_cons, List.not_mem_nil, or_false] at hx
    omega
set_option maxHeartbeats 1000000 in
theorem rints_eq (u v : Value) (xs : List Int) (w : World) (h : ReadI w u xs) (h' : ReadI w v xs) (hl : xs.length + 2 ≤ 1099511627776) : Calls Try.prog 56 #[u, v] w fun e w' => e = .returned (.bool true) ∧ Below w.heap.size w w' := by
  obtain ⟨a, cap, rfl⟩ := readI_len h
  obtain ⟨a', cap', rfl⟩ := readI_len h'
  obtain ⟨s, hs⟩ : ∃ s, s = bytesOf (lstB xs) := ⟨_, rfl⟩
  have HS := Lib.hid hs
  have HL := Lib.hid hl
  have HU : Hid (∀ W, Below w.heap.size w W → ReadI W (.slice a xs.length cap) xs) := fun W hb => readI_below h hb
  have HV : Hid (∀ W, Below w.heap.size w W → ReadI W (.slice a' xs.length cap') xs) := fun W hb => readI_below h' hb
  clear hs hl h h'
  go_enter Try.func56, Try.ntmps56
  go_wp2_with fail
  refine wp_region_held_drew (S := (fun _ => True)) (by kernel_rfl) trivial (fun hHeld => ?_)
  (refine wpAnyH_take (i := 0) (v := ?_) rfl (by kernel_rfl) (by kernel_rfl) (by kernel_rfl) (fun _ _ _ h => h) (Or.inl ⟨by rfl, ?_⟩) hHeld ?_; rotate_left; (focus (intro w hSw; (try dsimp only at hSw); go_simp; try (with_reducible rfl))); (try simp only [Act.put, List.getElem_toArray, List.getElem_cons_succ, List.getElem_cons_zero, List.setIfInBounds_toArray, List.set_cons_zero, List.set_cons_succ]))
  (refine wpAnyH_take (i := 3) (v := ?_) rfl (by kernel_rfl) (by kernel_rfl) (by kernel_rfl) (fun _ _ _ h => h) (Or.inl ⟨by rfl, ?_⟩) hHeld ?_; rotate_left; (focus (intro w hSw; (try dsimp only at hSw); go_simp; try (with_reducible rfl))); (try simp only [Act.put, List.getElem_toArray, List.getElem_cons_succ, List.getElem_cons_zero, List.setIfInBounds_toArray, List.set_cons_zero, List.set_cons_succ]))
  refine wpAnyH_ready (rs := [1]) (by kernel_rfl) (by simp) (AllReadyH.cons rfl (fun K hK => ?_) AllReadyH.nil)
  go_simp
  refine (rlist_any _ _ xs (HU.out _ (by (repeat' (first | exact Below.refl _ _ | assumption | refine b_alloc ?_ _ | refine b_over ?_ _ | refine b_drew ?_ | refine b_call ?_ (by assumption))))) HL.out).mono ?_
  rintro e w1 ⟨v1, rfl, own1, hb1⟩
  obtain ⟨g1, c1, rfl, _, _, hcv1⟩ := conv_own own1 (n := (lstB xs).length) rfl (by rw [lstB_length]; omega) (isBytes_lstB xs)
  rw [← HS.out] at hcv1
  have HCV1 := Lib.hid hcv1
  clear own1 hcv1
  refine hK.out _ _ (trivial) (fun hHeld => ?_)
  clear hK K
  (try simp only [Act.put, List.getElem_toArray, List.getElem_cons_succ, List.getElem_cons_zero, List.setIfInBounds_toArray, List.set_cons_zero, List.set_cons_succ])
  refine wpAnyH_switch (S' := (fun w' => (convert 37 9 (.slice (some ⟨g1, 0, none⟩) (lstB xs).length c1)).run Try.prog w' = .ok (.string s) w')) (fun _ h => trivial) (HCV1.out _ (Below.refl _ _)) (fun hHeld => ?_)
  (refine wpAnyH_take (i := 2) (v := ?_) rfl (by kernel_rfl) (by kernel_rfl) (by kernel_rfl) (fun _ _ _ h => h) (Or.inl ⟨by rfl, ?_⟩) hHeld ?_; rotate_left; (focus (intro w hSw; (try dsimp only at hSw); go_simp; try (with_reducible rfl))); (try simp only [Act.put, List.getElem_toArray, List.getElem_cons_succ, List.getElem_cons_zero, List.setIfInBounds_toArray, List.set_cons_zero, List.set_cons_succ]))
  refine wpAnyH_ready (rs := [4]) (by kernel_rfl) (by simp) (AllReadyH.cons rfl (fun K hK => ?_) AllReadyH.nil)
  go_simp
  refine (rlist_any _ _ xs (HV.out _ (by (repeat' (first | exact Below.refl _ _ | assumption | refine b_alloc ?_ _ | refine b_over ?_ _ | refine b_drew ?_ | refine b_call ?_ (by assumption))))) HL.out).mono ?_
  rintro e w2 ⟨v2, rfl, own2, hb2⟩
  obtain ⟨g2, c2, rfl, _, _, hcv2⟩ := conv_own own2 (n := (lstB xs).length) rfl (by rw [lstB_length]; omega) (isBytes_lstB xs)
  rw [← HS.out] at hcv2
  have HCV2 := Lib.hid hcv2
  clear own2 hcv2
  refine hK.out _ _ (HCV1.out _ (by (repeat' (first | exact Below.refl _ _ | assumption | refine b_alloc ?_ _ | refine b_over ?_ _ | refine b_drew ?_ | refine b_call ?_ (by assumption))))) (fun hHeld => ?_)
  clear hK K
  (try simp only [Act.put, List.getElem_toArray, List.getElem_cons_succ, List.getElem_cons_zero, List.setIfInBounds_toArray, List.set_cons_zero, List.set_cons_succ])
  refine wpAnyH_switch (S' := (fun w' => (convert 37 9 (.slice (some ⟨g1, 0, none⟩) (lstB xs).length c1)).run Try.prog w' = .ok (.string s) w' ∧ (convert 37 9 (.slice (some ⟨g2, 0, none⟩) (lstB xs).length c2)).run Try.prog w' = .ok (.string s) w')) (fun _ h => h.1) ⟨HCV1.out _ (by (repeat' (first | exact Below.refl _ _ | assumption | refine b_alloc ?_ _ | refine b_over ?_ _ | refine b_drew ?_ | refine b_call ?_ (by assumption)))), HCV2.out _ (Below.refl _ _)⟩ (fun hHeld => ?_)
  (refine wpAnyH_take (i := 5) (v := ?_) rfl (by kernel_rfl) (by kernel_rfl) (by kernel_rfl) (fun _ _ _ h => h) (Or.inl ⟨by rfl, ?_⟩) hHeld ?_; rotate_left; (focus (intro w hSw; (try dsimp only at hSw); go_simp; try (with_reducible rfl))); (try simp only [Act.put, List.getElem_toArray, List.getElem_cons_succ, List.getElem_cons_zero, List.setIfInBounds_toArray, List.set_cons_zero, List.set_cons_succ]))
  (refine wpAnyH_take (i := 6) (v := ?_) rfl (by kernel_rfl) (by kernel_rfl) (by kernel_rfl) (fun _ _ _ h => h) (Or.inl ⟨by rfl, ?_⟩) hHeld ?_; rotate_left; (focus (intro w hSw; (try dsimp only at hSw); go_simp; try (with_reducible rfl))); (try simp only [Act.put, List.getElem_toArray, List.getElem_cons_succ, List.getElem_cons_zero, List.setIfInBounds_toArray, List.set_cons_zero, List.set_cons_succ]))
  (refine wpAnyH_take (i := 7) (v := ?_) rfl (by kernel_rfl) (by kernel_rfl) (by kernel_rfl) (fun _ _ _ h => h) (Or.inl ⟨by rfl, ?_⟩) hHeld ?_; rotate_left; (focus (intro w hSw; (try dsimp only at hSw); go_simp; try (with_reducible rfl))); (try simp only [Act.put, List.getElem_toArray, List.getElem_cons_succ, List.getElem_cons_zero, List.setIfInBounds_toArray, List.set_cons_zero, List.set_cons_succ]))
  (refine wpAnyH_take (i := 8) (v := ?_) rfl (by kernel_rfl) (by kernel_rfl) (by kernel_rfl) (fun _ _ _ h => h) (Or.inl ⟨by rfl, ?_⟩) hHeld ?_; rotate_left; (focus (intro w hSw; (try dsimp only at hSw); go_simp; try (with_reducible rfl))); (try simp only [Act.put, List.getElem_toArray, List.getElem_cons_succ, List.getElem_cons_zero, List.setIfInBounds_toArray, List.set_cons_zero, List.set_cons_succ]))
  (refine wpAnyH_take (i := 9) (v := ?_) rfl (by kernel_rfl) (by kernel_rfl) (by kernel_rfl) (fun _ _ _ h => h) (Or.inl ⟨by rfl, ?_⟩) hHeld ?_; rotate_left; (focus (intro w hSw; (try dsimp only at hSw); go_simp; try (with_reducible rfl))); (try simp only [Act.put, List.getElem_toArray, List.getElem_cons_succ, List.getElem_cons_zero, List.setIfInBounds_toArray, List.set_cons_zero, List.set_cons_succ]))
  (refine wpAnyH_take (i := 10) (v := ?_) rfl (by kernel_rfl) (by kernel_rfl) (by kernel_rfl) (fun _ _ _ h => h) (Or.inl ⟨by rfl, ?_⟩) hHeld ?_; rotate_left; (focus (intro w hSw; (try dsimp only at hSw); go_simp; try (with_reducible rfl))); (try simp only [Act.put, List.getElem_toArray, List.getElem_cons_succ, List.getElem_cons_zero, List.setIfInBounds_toArray, List.set_cons_zero, List.set_cons_succ]))
  (refine wpAnyH_take (i := 11) (v := ?_) rfl (by kernel_rfl) (by kernel_rfl) (by kernel_rfl) (fun _ _ _ h => h) (Or.inl ⟨by rfl, ?_⟩) hHeld ?_; rotate_left; (focus (intro w hSw; (try dsimp only at hSw); go_simp; try (with_reducible rfl))); (try simp only [Act.put, List.getElem_toArray, List.getElem_cons_succ, List.getElem_cons_zero, List.setIfInBounds_toArray, List.set_cons_zero, List.set_cons_succ]))
  (refine wpAnyH_take (i := 12) (v := ?_) rfl (by kernel_rfl) (by kernel_rfl) (by kernel_rfl) (fun _ _ _ h => h) (Or.inl ⟨by rfl, ?_⟩) hHeld ?_; rotate_left; (focus (intro w hSw; (try dsimp only at hSw); go_simp; try (with_reducible rfl))); (try simp only [Act.put, List.getElem_toArray, List.getElem_cons_succ, List.getElem_cons_zero, List.setIfInBounds_toArray, List.set_cons_zero, List.set_cons_succ]))
  (refine wpAnyH_take (i := 13) (v := ?_) rfl (by kernel_rfl) (by kernel_rfl) (by kernel_rfl) (fun _ _ _ h => h) (Or.inl ⟨by rfl, ?_⟩) hHeld ?_; rotate_left; (focus (intro w hSw; (try dsimp only at hSw); go_simp; try (with_reducible rfl))); (try simp only [Act.put, List.getElem_toArray, List.getElem_cons_succ, List.getElem_cons_zero, List.setIfInBounds_toArray, List.set_cons_zero, List.set_cons_succ]))
  (refine wpAnyH_take (i := 14) (v := ?_) rfl (by kernel_rfl) (by kernel_rfl) (by kernel_rfl) (fun _ _ _ h => h) (Or.inl ⟨by rfl, ?_⟩) hHeld ?_; rotate_left; (focus (intro w hSw; (try dsimp only at hSw); go_simp; try (with_reducible rfl))); (try simp only [Act.put, List.getElem_toArray, List.getElem_cons_succ, List.getElem_cons_zero, List.setIfInBounds_toArray, List.set_cons_zero, List.set_cons_succ]))
  refine wpAnyH_done (by kernel_rfl) ?_ _
  go_wp2
  go_ret
  exact ⟨rfl, by (repeat' (first | exact Below.refl _ _ | assumption | refine b_alloc ?_ _ | refine b_over ?_ _ | refine b_drew ?_ | refine b_call ?_ (by assumption)))⟩
set_option maxRecDepth 100000 in
set_option maxHeartbeats 2000000 in
theorem rsame_eq (v1 v2 : PrV) (P : PrM) (w : World) (h1 : ReadP w v1 P) (h2 : ReadP w v2 P) (hm : mayP P = true) (hgd : GoodP P) : Calls Try.prog 34 #[aggP v1, aggP v2] w fun e w' => e = .returned (.bool true) ∧ Below w.heap.size w w' := by
  have ok := okP_of hm
  obtain ⟨u, ⟨ga, gn, gc⟩, m, ⟨fa, fn, fc⟩⟩ := v1
  obtain ⟨u', ⟨ga', gn', gc'⟩, m', ⟨fa', fn', fc'⟩⟩ := v2
  have HP1 := Lib.hid h1
  have HP2 := Lib.hid h2
  obtain ⟨pu, gl, pm, fs⟩ := P
  obtain ⟨e1, g1, e2, f1⟩ := h1
  obtain ⟨e1', g1', e2', f1'⟩ := h2
  simp only at e1 e2 e1' e2'
  subst e1; subst e2; subst e1'; subst e2'
  have hfl : fn = fs.length := by
    obtain ⟨L, hL, hA⟩ := f1
    exact (slr_cap (show ReadR fnE w (.slice fa fn fc) L from hL)).2.2.trans (allF_len hA)
  have hfl' : fn' = fs.length := by
    obtain ⟨L, hL, hA⟩ := f1'
    exact (slr_cap (show ReadR fnE w (.slice fa' fn' fc') L from hL)).2.2.trans (allF_len hA)
  subst hfl; subst hfl'
  have HG := Lib.hid (show ReadI w (.slice ga gn gc) gl from g1)
  have HG' := Lib.hid (show ReadI w (.slice ga' gn' gc') gl from g1')
  have HGL : Hid (gl.length ≤ 8) := ok.g
  obtain ⟨s, hs⟩ : ∃ s, s = bytesOf (bytP ⟨u', gl, m', fs⟩) := ⟨_, rfl⟩
  have HS := Lib.hid hs
  obtain ⟨N, hN⟩ : ∃ N, N = (bytP ⟨u', gl, m', fs⟩).length := ⟨_, rfl⟩
  have HN := Lib.hid hN
  have HN0 : Hid (0 < (bytP ⟨u', gl, m', fs⟩).length) := by show 0 < _; unfold bytP headP; simp
  have HM := Lib.hid hm
  have HGD := Lib.hid hgd
  clear g1 g1' f1 f1' hs hN ok hm hgd
  unfold aggP Sl.v
  simp only
  have HB0 := Lib.hid (b_alloc (b_alloc (Below.refl w.heap.size w) (.cells #[.bool u', .slice ga gn gc, .int .i64 m', .slice fa fs.length fc] 54)) (.cells #[.bool u', .slice ga' gn' gc', .int .i64 m', .slice fa' fs.length fc'] 54))
  have HX1 : Hid (Blk ((w.alloc (.cells #[.bool u', .slice ga gn gc, .int .i64 m', .slice fa fs.length fc] 54)).alloc (.cells #[.bool u', .slice ga' gn' gc', .int .i64 m', .slice fa' fs.length fc'] 54)) w.heap.size [.bool u', .slice ga gn gc, .int .i64 m', .slice fa fs.length fc]) := blk_alloc (blk_new _ _ _) _
  have HX2 : Hid (Blk ((w.alloc (.cells #[.bool u', .slice ga gn gc, .int .i64 m', .slice fa fs.length fc] 54)).alloc (.cells #[.bool u', .slice ga' gn' gc', .int .i64 m', .slice fa' fs.length fc'] 54)) (w.heap.size + 1) [.bool u', .slice ga' gn' gc', .int .i64 m', .slice fa' fs.length fc']) := blk_new2 (by simp)
  go_enter Try.func34, Try.ntmps34
  go_wp2_with fail
  refine (rints_eq _ _ gl _ (readI_below HG.out HB0.out) (readI_below HG'.out HB0.out) (by have := HGL.out; omega)).mono ?_
  rintro e W ⟨rfl, hb1⟩
  have BW1 := blk_below HX1.out hb1
  have BW2 := blk_below HX2.out hb1
  have HBW := Lib.hid (b_call HB0.out hb1)
  have HH : Hid (∀ w', Below W.heap.size W w' → (w'.cell? ⟨w.heap.size, 0, none⟩ = some (.bool u') ∧ w'.cell? ⟨w.heap.size, 1, none⟩ = some (.slice ga gn gc) ∧ w'.cell? ⟨w.heap.size, 2, none⟩ = some (.int .i64 m') ∧ w'.cell? ⟨w.heap.size, 3, none⟩ = some (.slice fa fs.length fc)) ∧ (w'.cell? ⟨w.heap.size + 1, 0, none⟩ = some (.bool u') ∧ w'.cell? ⟨w.heap.size + 1, 1, none⟩ = some (.slice ga' gn' gc') ∧ w'.cell? ⟨w.heap.size + 1, 2, none⟩ = some (.int .i64 m') ∧ w'.cell? ⟨w.heap.size + 1, 3, none⟩ = some (.slice fa' fs.length fc'))) := Lib.hid (fun w' hb => by
    obtain ⟨p0, p1, p2, p3, _⟩ := blk4 (blk_below BW1 hb)
    obtain ⟨q0, q1, q2, q3, _⟩ := blk4 (blk_below BW2 hb)
    exact ⟨⟨p0, p1, p2, p3⟩, q0, q1, q2, q3⟩)
  clear BW1 BW2 hb1
  go_upto_region 3 with fail
  refine wp_region_held_drew (S := (fun w' => (w'.cell? ⟨w.heap.size, 0, none⟩ = some (.bool u') ∧ w'.cell? ⟨w.heap.size, 1, none⟩ = some (.slice ga gn gc) ∧ w'.cell? ⟨w.heap.size, 2, none⟩ = some (.int .i64 m') ∧ w'.cell? ⟨w.heap.size, 3, none⟩ = some (.slice fa fs.length fc)) ∧ (w'.cell? ⟨w.heap.size + 1, 0, none⟩ = some (.bool u') ∧ w'.cell? ⟨w.heap.size + 1, 1, none⟩ = some (.slice ga' gn' gc') ∧ w'.cell? ⟨w.heap.size + 1, 2, none⟩ = some (.int .i64 m') ∧ w'.cell? ⟨w.heap.size + 1, 3, none⟩ = some (.slice fa' fs.length fc')))) (by kernel_rfl) (HH.out _ (b_drew (Below.refl _ _))) (fun hHeld => ?_)
  (refine wpAnyH_take (i := 0) (v := ?_) rfl (by kernel_rfl) (by kernel_rfl) (by kernel_rfl) (fun _ _ _ h => h) (Or.inl ⟨by rfl, ?_⟩) hHeld ?_; rotate_left; (focus (intro w hSw; (try dsimp only at hSw); go_simp; try (with_reducible rfl))); (try simp only [Act.put, List.getElem_toArray, List.getElem_cons_succ, List.getElem_cons_zero, List.setIfInBounds_toArray, List.set_cons_zero, List.set_cons_succ]))
  (refine wpAnyH_take (i := 3) (v := ?_) rfl (by kernel_rfl) (by kernel_rfl) (by kernel_rfl) (fun _ _ _ h => h) (Or.inl ⟨by rfl, ?_⟩) hHeld ?_; rotate_left; (focus (intro w hSw; (try dsimp only at hSw); go_simp; try (with_reducible rfl))); (try simp only [Act.put, List.getElem_toArray, List.getElem_cons_succ, List.getElem_cons_zero, List.setIfInBounds_toArray, List.set_cons_zero, List.set_cons_succ]))
  refine wpAnyH_ready (rs := [1]) (by kernel_rfl) (by simp) (AllReadyH.cons rfl (fun K hK => ?_) AllReadyH.nil)
  go_simp
  refine (rbytes25_any ⟨u', ⟨ga, gn, gc⟩, m', ⟨fa, fs.length, fc⟩⟩ ⟨u', gl, m', fs⟩ _ (readP_below HP1.out (b_call HBW.out (by (repeat' (first | exact Below.refl _ _ | assumption | refine b_alloc ?_ _ | refine b_over ?_ _ | refine b_drew ?_ | refine b_call ?_ (by assumption)))))) HM.out HGD.out).mono ?_
  rintro e w1 ⟨v1, rfl, own1, hb1⟩
  obtain ⟨g1, c1, rfl, _, _, hcv1⟩ := conv_own own1 (n := N) HN.out (by rw [HN.out]; exact HN0.out) (isBytes_bytP _)
  rw [← HS.out] at hcv1
  have HCV1 := Lib.hid hcv1
  clear own1 hcv1
  refine hK.out _ _ (HH.out _ (by (repeat' (first | exact Below.refl _ _ | assumption | refine b_alloc ?_ _ | refine b_over ?_ _ | refine b_drew ?_ | refine b_call ?_ (by assumption))))) (fun hHeld => ?_)
  clear hK K
  (try simp only [Act.put, List.getElem_toArray, List.getElem_cons_succ, List.getElem_cons_zero, List.setIfInBounds_toArray, List.set_cons_zero, List.set_cons_succ])
  refine wpAnyH_switch (S' := (fun w' => ((w'.cell? ⟨w.heap.size, 0, none⟩ = some (.bool u') ∧ w'.cell? ⟨w.heap.size, 1, none⟩ = some (.slice ga gn gc) ∧ w'.cell? ⟨w.heap.size, 2, none⟩ = some (.int .i64 m') ∧ w'.cell? ⟨w.heap.size, 3, none⟩ = some (.slice fa fs.length fc)) ∧ (w'.cell? ⟨w.heap.size + 1, 0, none⟩ = some (.bool u') ∧ w'.cell? ⟨w.heap.size + 1, 1, none⟩ = some (.slice ga' gn' gc') ∧ w'.cell? ⟨w.heap.size + 1, 2, none⟩ = some (.int .i64 m') ∧ w'.cell? ⟨w.heap.size + 1, 3, none⟩ = some (.slice fa' fs.length fc'))) ∧ (convert 37 9 (.slice (some ⟨g1, 0, none⟩) N c1)).run Try.prog w' = .ok (.string s) w')) (fun _ h => h.1) ⟨HH.out _ (by (repeat' (first | exact Below.refl _ _ | assumption | refine b_alloc ?_ _ | refine b_over ?_ _ | refine b_drew ?_ | refine b_call ?_ (by assumption)))), HCV1.out _ (Below.refl _ _)⟩ (fun hHeld => ?_)
  (refine wpAnyH_take (i := 2) (v := ?_) rfl (by kernel_rfl) (by kernel_rfl) (by kernel_rfl) (fun _ _ _ h => h) (Or.inl ⟨by rfl, ?_⟩) hHeld ?_; rotate_left; (focus (intro w hSw; (try dsimp only at hSw); go_simp; try (with_reducible rfl))); (try simp only [Act.put, List.getElem_toArray, List.getElem_cons_succ, List.getElem_cons_zero, List.setIfInBounds_toArray, List.set_cons_zero, List.set_cons_succ]))
  refine wpAnyH_ready (rs := [4]) (by kernel_rfl) (by simp) (AllReadyH.cons rfl (fun K hK => ?_) AllReadyH.nil)
  go_simp
  refine (rbytes25_any ⟨u', ⟨ga', gn', gc'⟩, m', ⟨fa', fs.length, fc'⟩⟩ ⟨u', gl, m', fs⟩ _ (readP_below HP2.out (b_call HBW.out (by (repeat' (first | exact Below.refl _ _ | assumption | refine b_alloc ?_ _ | refine b_over ?_ _ | refine b_drew ?_ | refine b_call ?_ (by assumption)))))) HM.out HGD.out).mono ?_
  rintro e w2 ⟨v2, rfl, own2, hb2⟩
  obtain ⟨g2, c2, rfl, _, _, hcv2⟩ := conv_own own2 (n := N) HN.out (by rw [HN.out]; exact HN0.out) (isBytes_bytP _)
  rw [← HS.out] at hcv2
  have HCV2 := Lib.hid hcv2
  clear own2 hcv2
  refine hK.out _ _ (⟨HH.out _ (by (repeat' (first | exact Below.refl _ _ | assumption | refine b_alloc ?_ _ | refine b_over ?_ _ | refine b_drew ?_ | refine b_call ?_ (by assumption)))), HCV1.out _ (by (repeat' (first | exact Below.refl _ _ | assumption | refine b_alloc ?_ _ | refine b_over ?_ _ | refine b_drew ?_ | refine b_call ?_ (by assumption))))⟩) (fun hHeld => ?_)
  clear hK K
  (try simp only [Act.put, List.getElem_toArray, List.getElem_cons_succ, List.getElem_cons_zero, List.setIfInBounds_toArray, List.set_cons_zero, List.set_cons_succ])
  refine wpAnyH_switch (S' := (fun w' => (((w'.cell? ⟨w.heap.size, 0, none⟩ = some (.bool u') ∧ w'.cell? ⟨w.heap.size, 1, none⟩ = some (.slice ga gn gc) ∧ w'.cell? ⟨w.heap.size, 2, none⟩ = some (.int .i64 m') ∧ w'.cell? ⟨w.heap.size, 3, none⟩ = some (.slice fa fs.length fc)) ∧ (w'.cell? ⟨w.heap.size + 1, 0, none⟩ = some (.bool u') ∧ w'.cell? ⟨w.heap.size + 1, 1, none⟩ = some (.slice ga' gn' gc') ∧ w'.cell? ⟨w.heap.size + 1, 2, none⟩ = some (.int .i64 m') ∧ w'.cell? ⟨w.heap.size + 1, 3, none⟩ = some (.slice fa' fs.length fc'))) ∧ (convert 37 9 (.slice (some ⟨g1, 0, none⟩) N c1)).run Try.prog w' = .ok (.string s) w') ∧ (convert 37 9 (.slice (some ⟨g2, 0, none⟩) N c2)).run Try.prog w' = .ok (.string s) w')) (fun _ h => h.1) ⟨⟨HH.out _ (by (repeat' (first | exact Below.refl _ _ | assumption | refine b_alloc ?_ _ | refine b_over ?_ _ | refine b_drew ?_ | refine b_call ?_ (by assumption)))), HCV1.out _ (by (repeat' (first | exact Below.refl _ _ | assumption | refine b_alloc ?_ _ | refine b_over ?_ _ | refine b_drew ?_ | refine b_call ?_ (by assumption))))⟩, HCV2.out _ (Below.refl _ _)⟩ (fun hHeld => ?_)
  (refine wpAnyH_take (i := 5) (v := ?_) rfl (by kernel_rfl) (by kernel_rfl) (by kernel_rfl) (fun _ _ _ h => h) (Or.inl ⟨by rfl, ?_⟩) hHeld ?_; rotate_left; (focus (intro w hSw; (try dsimp only at hSw); go_simp; try (with_reducible rfl))); (try simp only [Act.put, List.getElem_toArray, List.getElem_cons_succ, List.getElem_cons_zero, List.setIfInBounds_toArray, List.set_cons_zero, List.set_cons_succ]))
  (refine wpAnyH_take (i := 6) (v := ?_) rfl (by kernel_rfl) (by kernel_rfl) (by kernel_rfl) (fun _ _ _ h => h) (Or.inl ⟨by rfl, ?_⟩) hHeld ?_; rotate_left; (focus (intro w hSw; (try dsimp only at hSw); go_simp; try (with_reducible rfl))); (try simp only [Act.put, List.getElem_toArray, List.getElem_cons_succ, List.getElem_cons_zero, List.setIfInBounds_toArray, List.set_cons_zero, List.set_cons_succ]))
  (refine wpAnyH_take (i := 7) (v := ?_) rfl (by kernel_rfl) (by kernel_rfl) (by kernel_rfl) (fun _ _ _ h => h) (Or.inl ⟨by rfl, ?_⟩) hHeld ?_; rotate_left; (focus (intro w hSw; (try dsimp only at hSw); go_simp; try (with_reducible rfl))); (try simp only [Act.put, List.getElem_toArray, List.getElem_cons_succ, List.getElem_cons_zero, List.setIfInBounds_toArray, List.set_cons_zero, List.set_cons_succ]))
  refine wpAnyH_done (by kernel_rfl) ?_ _
  go_wp2
  go_ret
  exact ⟨rfl, b_call HBW.out (by (repeat' (first | exact Below.refl _ _ | assumption | refine b_alloc ?_ _ | refine b_over ?_ _ | refine b_drew ?_ | refine b_call ?_ (by assumption))))⟩
end Go.Proofs.Ytdhkemnebppkhaa
