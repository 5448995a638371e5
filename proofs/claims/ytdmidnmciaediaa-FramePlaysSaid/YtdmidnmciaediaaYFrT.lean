/- Layer 28: the contract of the document's Push. Conditions: those stated. -/
import Derived.Test.YtdmidnmciaediaaYFrS
namespace Go.Proofs.Ytdmidnmciaediaa
open Go.RowKit
set_option linter.unusedVariables false
set_option linter.unusedSimpArgs false
attribute [local go_sem] over_cell over_frozen
variable {w0 w w' : World} {r : Nat} {q : PrV} {lv : Sl} {L : List FrM} {m : FrM}
theorem rpush_none (h : DocF w0 w r q lv []) (v : ValM) : Calls Try.prog 67 #[rp r, aggV v] w fun e w' => e = .returned (.int .i64 6) ∧ Below w.heap.size w w' := by
  obtain ⟨n1, n2, n3⟩ := doc_len h
  obtain ⟨u, ⟨ga, gn, gc⟩, qm, ⟨fa, fn, fc⟩⟩ := q
  obtain ⟨la, ln, lc⟩ := lv
  simp only [List.length_nil] at n1 n2 n3
  subst n1
  have b4 := h.hd.2.1 4 (by simp)
  simp only [List.getElem_cons_succ, List.getElem_cons_zero] at b4
  have bz := h.hd.1
  clear h n2
  unfold rp aggV
  go_enter Try.func67, Try.ntmps67
  go_wp2_with fail
  go_ret
  exact ⟨rfl, b_alloc (Below.refl _ _) _⟩
theorem rpush_full (h : DocF w0 w r q lv (L ++ [m])) (hL : L.length ≤ 24) (v : ValM) (hm : 16 ≤ m.stk.length) (hm2 : m.stk.length ≤ 100) : Calls Try.prog 67 #[rp r, aggV v] w fun e w' => e = .returned (.int .i64 5) ∧ Below w.heap.size w w' := by
  obtain ⟨n1, n2, n3⟩ := doc_len h
  rw [List.length_append, List.length_singleton] at n1 n2
  obtain ⟨vb, vo, v9, ea, hvb, hv, c0, c1, c2, c3, e1, e2⟩ := doc_top h
  have HV := Lib.hid hv
  have HDD := Lib.hid h
  obtain ⟨va, vb', ⟨wa, wn, wcap⟩, ⟨ya, yn, yc⟩⟩ := v9
  obtain ⟨la, ln, lc⟩ := lv
  simp only at n1 n2 n3 ea c2 c3 e1 e2
  subst n1
  subst ea
  subst e1 e2
  have b4 := h.hd.2.1 4 (by simp)
  simp only [List.getElem_cons_succ, List.getElem_cons_zero] at b4
  have bz := h.hd.1
  have nl : (L.length : Int) ≤ 24 := by omega
  have ncl : (L.length : Int) < lc := by omega
  have wl : IntKind.i64.wrap (L.length : Int) = L.length := by rw [IntKind.wrap_i64]; omega
  have nl0 : (0 : Int) ≤ L.length := by omega
  have nll : (L.length : Int) < L.length + 1 := by omega
  have nz : ((L.length : Int) + 1 == 0) = false := beq_false_of_ne (by omega)
  have hs1 : (16 : Int) ≤ m.stk.length := by omega
  clear h n2 hL hv
  unfold rp aggV
  go_enter Try.func67, Try.ntmps67
  go_upto_region 3 with fail
  go_region
  refine thenF_named ?_
  intro W hW
  have S1 : Blk W w.heap.size [.int .i64 v.k, .int .u64 v.b] ∧ Blk W (w.heap.size + 1) [.int .i64 m.f, .int .i64 m.at_, .slice wa m.loc.length wcap, .slice ya m.stk.length yc] ∧ Below w.heap.size w W := by
    rw [hW]
    obtain ⟨z1, z2, z3⟩ := boxF2 w #[.int .i64 v.k, .int .u64 v.b] #[.int .i64 m.f, .int .i64 m.at_, .slice wa m.loc.length wcap, .slice ya m.stk.length yc] VRT RFT
    exact ⟨z1, z2, b_drew z3⟩
  have HB := Lib.hid S1.2.2
  obtain ⟨x0, x1, x2, x3, _⟩ := blk4 S1.2.1
  have xz := S1.2.1.1
  clear hW S1 b4 bz c0 c1 c2 c3 hvb
  go_wp2_with fail
  go_ret
  exact ⟨rfl, HB.out⟩
theorem rfOk_push {w1 : World} {X : Nat} {v : ValM} {va vb : Int} {l : Sl} {ya : Option Addr} {yn yc g cap : Nat} {u : Value} (hv : RfOk w ⟨va, vb, l, ⟨ya, yn, yc⟩⟩ m) (hb : Below w.heap.size w w1) (hX : tyB w1 X = some RFT) (hown : OwnR valE VRT w1 w.heap.size (.slice (some ⟨g, 0, none⟩) (m.stk.length + 1) cap) (m.stk ++ [v])) : RfOk (w1.setCell ⟨X, 3, none⟩ u) ⟨va, vb, l, ⟨some ⟨g, 0, none⟩, m.stk.length + 1, cap⟩⟩ ⟨m.f, m.at_, m.loc, m.stk ++ [v]⟩ := by
  have h1 := rfOk_below hv hb
  have h2 : RfOk w1 ⟨va, vb, l, ⟨some ⟨g, 0, none⟩, m.stk.length + 1, cap⟩⟩ ⟨m.f, m.at_, m.loc, m.stk ++ [v]⟩ := ⟨h1.f, h1.a, h1.l, h1.lt, ownR_read hown, Or.inr ⟨g, rfl, ownR_ty hown g rfl⟩⟩
  refine rfOk_keep h2 (by simp) (fun k hk => Below.heap_setCell _ _ _ _ ?_)
  show k ≠ X
  intro e
  subst e
  rw [hX] at hk
  injection hk with hk
  exact absurd hk (by decide)
def DPushEnd (w0 w : World) (r : Nat) (q : PrV) (L : List FrM) (m : FrM) (e : Ending) (w' : World) : Prop := e = .returned (.int .i64 0) ∧ ∃ lv', DocF w0 w' r q lv' (L ++ [m]) ∧ GrowX w w' (fun j => j = r)
set_option maxRecDepth 100000 in
set_option maxHeartbeats 4000000 in
theorem rpush_any (h : DocF w0 w r q lv (L ++ [m])) (hL : L.length ≤ 24) (v : ValM) (hm : m.stk.length < 16) : Calls Try.prog 67 #[rp r, aggV v] w (DPushEnd w0 w r q L ⟨m.f, m.at_, m.loc, m.stk ++ [v]⟩) := by
  obtain ⟨n1, n2, n3⟩ := doc_len h
  rw [List.length_append, List.length_singleton] at n1 n2
  obtain ⟨vb, vo, v9, ea, hvb, hv, c0, c1, c2, c3, e1, e2⟩ := doc_top h
  have HV := Lib.hid hv
  have HDD := Lib.hid h
  obtain ⟨va, vb', ⟨wa, wn, wcap⟩, ⟨ya, yn, yc⟩⟩ := v9
  obtain ⟨la, ln, lc⟩ := lv
  simp only at n1 n2 n3 ea c2 c3 e1 e2
  subst n1
  subst ea
  subst e1 e2
  have b4 := h.hd.2.1 4 (by simp)
  simp only [List.getElem_cons_succ, List.getElem_cons_zero] at b4
  have bz := h.hd.1
  have nl : (L.length : Int) ≤ 24 := by omega
  have ncl : (L.length : Int) < lc := by omega
  have wl : IntKind.i64.wrap (L.length : Int) = L.length := by rw [IntKind.wrap_i64]; omega
  have nl0 : (0 : Int) ≤ L.length := by omega
  have nll : (L.length : Int) < L.length + 1 := by omega
  have nz : ((L.length : Int) + 1 == 0) = false := beq_false_of_ne (by omega)
  have hs1 : (m.stk.length : Int) < 16 := by omega
  have HSL : Hid (m.stk.length ≤ 16) := Lib.hid (by omega)
  have HSK : Hid (m.stk.length ≤ 16) := HSL
  have HLL := Lib.hid hL
  obtain ⟨SS, hSS⟩ : ∃ SS, SS = m.stk := ⟨_, rfl⟩
  have HSSE := Lib.hid hSS
  have HSSR : Hid (ReadR valE w (.slice ya m.stk.length yc) SS) := Lib.hid (by rw [hSS]; exact hv.s)
  have HSL : Hid (SS.length = m.stk.length) := Lib.hid (by rw [hSS])
  clear h n2 hL hv hm hSS
  unfold rp aggV
  go_enter Try.func67, Try.ntmps67
  go_upto_region 3 with fail
  go_region
  refine thenF_named ?_
  intro W hW
  have S1 : Blk W w.heap.size [.int .i64 v.k, .int .u64 v.b] ∧ Blk W (w.heap.size + 1) [.int .i64 m.f, .int .i64 m.at_, .slice wa m.loc.length wcap, .slice ya m.stk.length yc] ∧ Below w.heap.size w W := by
    rw [hW]
    obtain ⟨z1, z2, z3⟩ := boxF2 w #[.int .i64 v.k, .int .u64 v.b] #[.int .i64 m.f, .int .i64 m.at_, .slice wa m.loc.length wcap, .slice ya m.stk.length yc] VRT RFT
    exact ⟨z1, z2, b_drew z3⟩
  have HTX : Hid (tyB W (w.heap.size + 1) = some RFT) := Lib.hid (by rw [hW, tyB_drew]; exact tyB_new2 (by simp))
  have HB := Lib.hid S1.2.2
  have HY0 := Lib.hid S1.1; have HX := Lib.hid S1.2.1
  obtain ⟨x0, x1, x2, x3, _⟩ := blk4 S1.2.1
  have xz := S1.2.1.1
  clear hW S1 b4 bz c0 c1 c2 c3 hvb
  go_upto_region 6 with fail
  clear x0 x1 x2 x3 xz
  have HSS : Hid (ReadR valE W (.slice ya m.stk.length yc) SS) := Lib.hid (readR_below HSSR.out HB.out)
  have HS : Hid (∀ w', Below W.heap.size W w' → (w'.cell? ⟨w.heap.size, 0, none⟩ = some (.int .i64 v.k) ∧ w'.cell? ⟨w.heap.size, 1, none⟩ = some (.int .u64 v.b)) ∧ w'.cell? ⟨w.heap.size + 1, 3, none⟩ = some (.slice ya m.stk.length yc)) := Lib.hid (fun w' hb => by
    obtain ⟨y0, y1, _⟩ := blk2 (blk_below HY0.out hb)
    obtain ⟨_, _, _, x3, _⟩ := blk4 (blk_below HX.out hb)
    exact ⟨⟨y0, y1⟩, x3⟩)
  have HFIN : Hid (∀ (q9 : World) g cap, Below W.heap.size W q9 → OwnR valE VRT q9 W.heap.size (.slice (some ⟨g, 0, none⟩) (SS.length + 1) cap) (SS ++ [v]) → Hid (Blk (q9.setCell ⟨w.heap.size + 1, 3, none⟩ (.slice (some ⟨g, 0, none⟩) (SS.length + 1) cap)) (w.heap.size + 1) [.int .i64 m.f, .int .i64 m.at_, .slice wa m.loc.length wcap, .slice (some ⟨g, 0, none⟩) (SS.length + 1) cap]) ∧ Hid (RfOk (q9.setCell ⟨w.heap.size + 1, 3, none⟩ (.slice (some ⟨g, 0, none⟩) (SS.length + 1) cap)) ⟨va, vb', ⟨wa, m.loc.length, wcap⟩, ⟨some ⟨g, 0, none⟩, m.stk.length + 1, cap⟩⟩ ⟨m.f, m.at_, m.loc, m.stk ++ [v]⟩) ∧ Hid (Below w.heap.size w (q9.setCell ⟨w.heap.size + 1, 3, none⟩ (.slice (some ⟨g, 0, none⟩) (SS.length + 1) cap)))) := Lib.hid (fun q9 g cap hb ho => by
    refine ⟨Lib.hid (blk_set (blk_below HX.out hb) 3 _), Lib.hid ?_, Lib.hid (b_set (b_call HB.out hb) (p := ⟨w.heap.size + 1, 3, none⟩) (by show w.heap.size ≤ w.heap.size + 1; omega) _)⟩
    rw [HSSE.out] at ho ⊢
    exact rfOk_push HV.out (b_call HB.out hb) (tyB_call HTX.out hb) (ownR_mono ho HB.out.size))
  go_cut [34] (fun x wx => ∃ g cap : Nat, x = .slice (some ⟨g, 0, none⟩) (SS.length + 1) cap ∧ Hid (Blk wx (w.heap.size + 1) [.int .i64 m.f, .int .i64 m.at_, .slice wa m.loc.length wcap, .slice (some ⟨g, 0, none⟩) (SS.length + 1) cap]) ∧ Hid (RfOk wx ⟨va, vb', ⟨wa, m.loc.length, wcap⟩, ⟨some ⟨g, 0, none⟩, m.stk.length + 1, cap⟩⟩ ⟨m.f, m.at_, m.loc, m.stk ++ [v]⟩) ∧ Hid (Below w.heap.size w wx))
  case first =>
    refine wp_region_E (S := fun w' => (w'.cell? ⟨w.heap.size, 0, none⟩ = some (.int .i64 v.k) ∧ w'.cell? ⟨w.heap.size, 1, none⟩ = some (.int .u64 v.b)) ∧ w'.cell? ⟨w.heap.size + 1, 3, none⟩ = some (.slice ya m.stk.length yc)) 8 (by kernel_rfl) (HS.out _ (b_drew (Below.refl _ _))) (fun hHeld => ?_)
    (refine wpAnyE_take (n := 12) (i := 1) (v := ?_) rfl (by kernel_rfl) (by kernel_rfl) (by kernel_rfl) (by kernel_rfl) (by kernel_rfl) (fun _ _ _ h => h) (Or.inl ⟨by rfl, ?_⟩) hHeld ?_; rotate_left; (focus (intro w hSw; (try dsimp only at hSw); go_simp; try (with_reducible rfl))); (try simp only [Act.put, List.getElem_toArray, List.getElem_cons_succ, List.getElem_cons_zero, List.setIfInBounds_toArray, List.set_cons_zero, List.set_cons_succ]))
    (refine wpAnyE_take (n := 12) (i := 2) (v := ?_) rfl (by kernel_rfl) (by kernel_rfl) (by kernel_rfl) (by kernel_rfl) (by kernel_rfl) (fun _ _ _ h => h) (Or.inl ⟨by rfl, ?_⟩) hHeld ?_; rotate_left; (focus (intro w hSw; (try dsimp only at hSw); go_simp; try (with_reducible rfl))); (try simp only [Act.put, List.getElem_toArray, List.getElem_cons_succ, List.getElem_cons_zero, List.setIfInBounds_toArray, List.set_cons_zero, List.set_cons_succ]))
    (refine wpAnyE_take (n := 12) (i := 4) (v := ?_) rfl (by kernel_rfl) (by kernel_rfl) (by kernel_rfl) (by kernel_rfl) (by kernel_rfl) (fun _ _ _ h => h) (Or.inl ⟨by rfl, ?_⟩) hHeld ?_; rotate_left; (focus (intro w hSw; (try dsimp only at hSw); go_simp; try (with_reducible rfl))); (try simp only [Act.put, List.getElem_toArray, List.getElem_cons_succ, List.getElem_cons_zero, List.setIfInBounds_toArray, List.set_cons_zero, List.set_cons_succ]))
    refine wpAnyE_named ?_
    intro q0 hq0
    have HBq0 : Hid (Below W.heap.size W q0) := Lib.hid (by rw [hq0]; exact b_drew (Below.refl _ _))
    clear hq0
    replace hHeld := HS.out _ HBq0.out
    refine wpAnyE_ready (rs := [0, 5]) (by kernel_rfl) (by simp) (AllReadyE.cons rfl (fun K hK => ?_) (AllReadyE.cons rfl (fun K hK => ?_) (AllReadyE.nil)))
    · skip
      go_simp
      refine hK.out _ _ (HS.out _ (b_alloc HBq0.out _)) (fun hHeld => ?_)
      clear hK K
      (try simp only [Act.put, List.getElem_toArray, List.getElem_cons_succ, List.getElem_cons_zero, List.setIfInBounds_toArray, List.set_cons_zero, List.set_cons_succ])
      refine wpAnyE_named ?_
      intro q1 hq1
      have HBq1 : Hid (Below W.heap.size W q1) := Lib.hid (by rw [hq1]; exact b_alloc HBq0.out _)
      obtain ⟨B, hB⟩ : ∃ x, x = q0.heap.size := ⟨_, rfl⟩
      rw [← hB]
      have OWq1 : Hid (OwnR valE VRT q1 W.heap.size (.slice (some ⟨B, 0, none⟩) 0 0) []) := Lib.hid (by rw [hq1, hB]; exact own_emptyR HBq0.out.size)
      clear hq1 hB
      replace hHeld := HS.out _ HBq1.out
      refine wpAnyE_ready (rs := [3, 5]) (by kernel_rfl) (by simp) (AllReadyE.cons rfl (fun K hK => ?_) (AllReadyE.cons rfl (fun K hK => ?_) (AllReadyE.nil)))
      · skip
        refine step_appendR rowVR (by rfl) _ _ (by rfl) W.heap.size _ [] (by rfl) OWq1.out _ SS (by rfl) (readR_below HSS.out HBq1.out) (by (have := HSL.out; have := HSK.out); simp only [List.length_nil]; omega) (by (have := HSL.out; have := HSK.out); simp only [List.length_nil]; unfold maxLen; omega) HBq1.out.size ?_
        intro V1 q2 ownq2 hgq2
        rw [List.nil_append] at ownq2
        have HBq2 := Lib.hid (b_ownR HBq1.out OWq1.out hgq2)
        have OWq2 := Lib.hid ownq2
        clear ownq2 hgq2
        refine hK.out _ _ (HS.out _ HBq2.out) (fun hHeld => ?_)
        clear hK K
        (try simp only [Act.put, List.getElem_toArray, List.getElem_cons_succ, List.getElem_cons_zero, List.setIfInBounds_toArray, List.set_cons_zero, List.set_cons_succ])
        refine wpAnyE_ready (rs := [5]) (by kernel_rfl) (by simp) (AllReadyE.cons rfl (fun K hK => ?_) AllReadyE.nil)
        go_simp
        refine hK.out _ _ (HS.out _ (b_alloc HBq2.out _)) (fun hHeld => ?_)
        clear hK K
        (try simp only [Act.put, List.getElem_toArray, List.getElem_cons_succ, List.getElem_cons_zero, List.setIfInBounds_toArray, List.set_cons_zero, List.set_cons_succ])
        refine wpAnyE_named ?_
        intro q3 hq3
        have HBq3 : Hid (Below W.heap.size W q3) := Lib.hid (by rw [hq3]; exact b_alloc HBq2.out _)
        obtain ⟨Y, hY⟩ : ∃ x, x = q2.heap.size := ⟨_, rfl⟩
        rw [← hY]
        have HYq3 : Hid (Blk q3 Y [.int .i64 v.k, .int .u64 v.b]) := Lib.hid (by rw [hq3]; exact blk_new3 hY)
        have OWq3 : Hid (OwnR valE VRT q3 W.heap.size V1 SS) := Lib.hid (by rw [hq3]; exact ownR_alloc OWq2.out _)
        clear hq3 hY
        replace hHeld := HS.out _ HBq3.out
        refine wpAnyE_ready (rs := [6]) (by kernel_rfl) (by simp) (AllReadyE.cons rfl (fun K hK => ?_) AllReadyE.nil)
        refine step_append1 rowVR (by rfl) _ _ (by rfl) (by rfl) (B := W.heap.size) OWq3.out v Y 1 (by rfl) HYq3.out (by (have := HSL.out; have := HSK.out); omega) (by (have := HSL.out; have := HSK.out); unfold maxLen; omega) HBq3.out.size ?_
        intro g cap q4 ownq4 hgq4 horq4 hlq4
        have HBq4 := Lib.hid (b_ownR HBq3.out OWq3.out hgq4)
        have OWq4 := Lib.hid ownq4
        clear ownq4 hgq4 horq4 hlq4
        refine hK.out _ _ (HS.out _ HBq4.out) (fun hHeld => ?_)
        clear hK K
        (try simp only [Act.put, List.getElem_toArray, List.getElem_cons_succ, List.getElem_cons_zero, List.setIfInBounds_toArray, List.set_cons_zero, List.set_cons_succ])
        (refine wpAnyE_take (n := 12) (i := 7) (v := ?_) rfl (by kernel_rfl) (by kernel_rfl) (by kernel_rfl) (by kernel_rfl) (by kernel_rfl) (fun _ _ _ h => h) (Or.inl ⟨by rfl, ?_⟩) hHeld ?_; rotate_left; (focus (intro w hSw; (try dsimp only at hSw); go_simp; try (with_reducible rfl))); (try simp only [Act.put, List.getElem_toArray, List.getElem_cons_succ, List.getElem_cons_zero, List.setIfInBounds_toArray, List.set_cons_zero, List.set_cons_succ]))
        have bx := blk_below HX.out HBq4.out
        have bz := bx.1
        have bf := bx.2.2
        obtain ⟨x0, x1, x2, x3, _⟩ := blk4 bx
        clear bx
        refine wpAnyE_ready (rs := [8]) (by kernel_rfl) (by simp) (AllReadyE.last rfl (fun K hK => ?_))
        go_simp
        refine hK.out _ _ (trivial) (fun hHeld => ?_)
        clear hK K
        (try simp only [Act.put, List.getElem_toArray, List.getElem_cons_succ, List.getElem_cons_zero, List.setIfInBounds_toArray, List.set_cons_zero, List.set_cons_succ])
        refine wpAnyE_done (by kernel_rfl) ?_
        go_wp2_with fail
        go_meet
        case rel => exact ⟨g, cap, rfl, HFIN.out _ g cap HBq4.out OWq4.out⟩
      · skip
        go_simp
        refine hK.out _ _ (HS.out _ (b_alloc HBq1.out _)) (fun hHeld => ?_)
        clear hK K
        (try simp only [Act.put, List.getElem_toArray, List.getElem_cons_succ, List.getElem_cons_zero, List.setIfInBounds_toArray, List.set_cons_zero, List.set_cons_succ])
        refine wpAnyE_named ?_
        intro q5 hq5
        have HBq5 : Hid (Below W.heap.size W q5) := Lib.hid (by rw [hq5]; exact b_alloc HBq1.out _)
        obtain ⟨Y, hY⟩ : ∃ x, x = q1.heap.size := ⟨_, rfl⟩
        rw [← hY]
        have HYq5 : Hid (Blk q5 Y [.int .i64 v.k, .int .u64 v.b]) := Lib.hid (by rw [hq5]; exact blk_new3 hY)
        have OWq5 : Hid (OwnR valE VRT q5 W.heap.size (.slice (some ⟨B, 0, none⟩) 0 0) []) := Lib.hid (by rw [hq5]; exact ownR_alloc OWq1.out _)
        have HNE : Hid (Y ≠ B) := Lib.hid (by have := (ownR_lt OWq1.out B rfl).2; omega)
        clear hq5 hY
        replace hHeld := HS.out _ HBq5.out
        refine wpAnyE_ready (rs := [3]) (by kernel_rfl) (by simp) (AllReadyE.cons rfl (fun K hK => ?_) AllReadyE.nil)
        refine step_appendR rowVR (by rfl) _ _ (by rfl) W.heap.size _ [] (by rfl) OWq5.out _ SS (by rfl) (readR_below HSS.out HBq5.out) (by (have := HSL.out; have := HSK.out); simp only [List.length_nil]; omega) (by (have := HSL.out; have := HSK.out); simp only [List.length_nil]; unfold maxLen; omega) HBq5.out.size ?_
        intro V1 q6 ownq6 hgq6
        rw [List.nil_append] at ownq6
        have HBq6 := Lib.hid (b_ownR HBq5.out OWq5.out hgq6)
        have OWq6 := Lib.hid ownq6
        have HYq6 : Hid (Blk q6 Y [.int .i64 v.k, .int .u64 v.b]) := Lib.hid (blk_grown HYq5.out hgq6 (fun e => HNE.out (by injection e)))
        clear ownq6 hgq6
        refine hK.out _ _ (HS.out _ HBq6.out) (fun hHeld => ?_)
        clear hK K
        (try simp only [Act.put, List.getElem_toArray, List.getElem_cons_succ, List.getElem_cons_zero, List.setIfInBounds_toArray, List.set_cons_zero, List.set_cons_succ])
        refine wpAnyE_ready (rs := [6]) (by kernel_rfl) (by simp) (AllReadyE.cons rfl (fun K hK => ?_) AllReadyE.nil)
        refine step_append1 rowVR (by rfl) _ _ (by rfl) (by rfl) (B := W.heap.size) OWq6.out v Y 1 (by rfl) HYq6.out (by (have := HSL.out; have := HSK.out); omega) (by (have := HSL.out; have := HSK.out); unfold maxLen; omega) HBq6.out.size ?_
        intro g cap q7 ownq7 hgq7 horq7 hlq7
        have HBq7 := Lib.hid (b_ownR HBq6.out OWq6.out hgq7)
        have OWq7 := Lib.hid ownq7
        clear ownq7 hgq7 horq7 hlq7
        refine hK.out _ _ (HS.out _ HBq7.out) (fun hHeld => ?_)
        clear hK K
        (try simp only [Act.put, List.getElem_toArray, List.getElem_cons_succ, List.getElem_cons_zero, List.setIfInBounds_toArray, List.set_cons_zero, List.set_cons_succ])
        (refine wpAnyE_take (n := 12) (i := 7) (v := ?_) rfl (by kernel_rfl) (by kernel_rfl) (by kernel_rfl) (by kernel_rfl) (by kernel_rfl) (fun _ _ _ h => h) (Or.inl ⟨by rfl, ?_⟩) hHeld ?_; rotate_left; (focus (intro w hSw; (try dsimp only at hSw); go_simp; try (with_reducible rfl))); (try simp only [Act.put, List.getElem_toArray, List.getElem_cons_succ, List.getElem_cons_zero, List.setIfInBounds_toArray, List.set_cons_zero, List.set_cons_succ]))
        have bx := blk_below HX.out HBq7.out
        have bz := bx.1
        have bf := bx.2.2
        obtain ⟨x0, x1, x2, x3, _⟩ := blk4 bx
        clear bx
        refine wpAnyE_ready (rs := [8]) (by kernel_rfl) (by simp) (AllReadyE.last rfl (fun K hK => ?_))
        go_simp
        refine hK.out _ _ (trivial) (fun hHeld => ?_)
        clear hK K
        (try simp only [Act.put, List.getElem_toArray, List.getElem_cons_succ, List.getElem_cons_zero, List.setIfInBounds_toArray, List.set_cons_zero, List.set_cons_succ])
        refine wpAnyE_done (by kernel_rfl) ?_
        go_wp2_with fail
        go_meet
        case rel => exact ⟨g, cap, rfl, HFIN.out _ g cap HBq7.out OWq7.out⟩
    · skip
      go_simp
      refine hK.out _ _ (HS.out _ (b_alloc HBq0.out _)) (fun hHeld => ?_)
      clear hK K
      (try simp only [Act.put, List.getElem_toArray, List.getElem_cons_succ, List.getElem_cons_zero, List.setIfInBounds_toArray, List.set_cons_zero, List.set_cons_succ])
      refine wpAnyE_named ?_
      intro q8 hq8
      have HBq8 : Hid (Below W.heap.size W q8) := Lib.hid (by rw [hq8]; exact b_alloc HBq0.out _)
      obtain ⟨Y, hY⟩ : ∃ x, x = q0.heap.size := ⟨_, rfl⟩
      rw [← hY]
      have HYq8 : Hid (Blk q8 Y [.int .i64 v.k, .int .u64 v.b]) := Lib.hid (by rw [hq8]; exact blk_new3 hY)
      clear hq8 hY
      replace hHeld := HS.out _ HBq8.out
      refine wpAnyE_ready (rs := [0]) (by kernel_rfl) (by simp) (AllReadyE.cons rfl (fun K hK => ?_) AllReadyE.nil)
      go_simp
      refine hK.out _ _ (HS.out _ (b_alloc HBq8.out _)) (fun hHeld => ?_)
      clear hK K
      (try simp only [Act.put, List.getElem_toArray, List.getElem_cons_succ, List.getElem_cons_zero, List.setIfInBounds_toArray, List.set_cons_zero, List.set_cons_succ])
      refine wpAnyE_named ?_
      intro q9 hq9
      have HBq9 : Hid (Below W.heap.size W q9) := Lib.hid (by rw [hq9]; exact b_alloc HBq8.out _)
      obtain ⟨B, hB⟩ : ∃ x, x = q8.heap.size := ⟨_, rfl⟩
      rw [← hB]
      have OWq9 : Hid (OwnR valE VRT q9 W.heap.size (.slice (some ⟨B, 0, none⟩) 0 0) []) := Lib.hid (by rw [hq9, hB]; exact own_emptyR HBq8.out.size)
      have HYq9 : Hid (Blk q9 Y [.int .i64 v.k, .int .u64 v.b]) := Lib.hid (by rw [hq9]; exact blk_alloc HYq8.out _)
      have HNE : Hid (Y ≠ B) := Lib.hid (by have := HYq8.out.1; omega)
      clear hq9 hB
      replace hHeld := HS.out _ HBq9.out
      refine wpAnyE_ready (rs := [3]) (by kernel_rfl) (by simp) (AllReadyE.cons rfl (fun K hK => ?_) AllReadyE.nil)
      refine step_appendR rowVR (by rfl) _ _ (by rfl) W.heap.size _ [] (by rfl) OWq9.out _ SS (by rfl) (readR_below HSS.out HBq9.out) (by (have := HSL.out; have := HSK.out); simp only [List.length_nil]; omega) (by (have := HSL.out; have := HSK.out); simp only [List.length_nil]; unfold maxLen; omega) HBq9.out.size ?_
      intro V1 q10 ownq10 hgq10
      rw [List.nil_append] at ownq10
      have HBq10 := Lib.hid (b_ownR HBq9.out OWq9.out hgq10)
      have OWq10 := Lib.hid ownq10
      have HYq10 : Hid (Blk q10 Y [.int .i64 v.k, .int .u64 v.b]) := Lib.hid (blk_grown HYq9.out hgq10 (fun e => HNE.out (by injection e)))
      clear ownq10 hgq10
      refine hK.out _ _ (HS.out _ HBq10.out) (fun hHeld => ?_)
      clear hK K
      (try simp only [Act.put, List.getElem_toArray, List.getElem_cons_succ, List.getElem_cons_zero, List.setIfInBounds_toArray, List.set_cons_zero, List.set_cons_succ])
      refine wpAnyE_ready (rs := [6]) (by kernel_rfl) (by simp) (AllReadyE.cons rfl (fun K hK => ?_) AllReadyE.nil)
      refine step_append1 rowVR (by rfl) _ _ (by rfl) (by rfl) (B := W.heap.size) OWq10.out v Y 1 (by rfl) HYq10.out (by (have := HSL.out; have := HSK.out); omega) (by (have := HSL.out; have := HSK.out); unfold maxLen; omega) HBq10.out.size ?_
      intro g cap q11 ownq11 hgq11 horq11 hlq11
      have HBq11 := Lib.hid (b_ownR HBq10.out OWq10.out hgq11)
      have OWq11 := Lib.hid ownq11
      clear ownq11 hgq11 horq11 hlq11
      refine hK.out _ _ (HS.out _ HBq11.out) (fun hHeld => ?_)
      clear hK K
      (try simp only [Act.put, List.getElem_toArray, List.getElem_cons_succ, List.getElem_cons_zero, List.setIfInBounds_toArray, List.set_cons_zero, List.set_cons_succ])
      (refine wpAnyE_take (n := 12) (i := 7) (v := ?_) rfl (by kernel_rfl) (by kernel_rfl) (by kernel_rfl) (by kernel_rfl) (by kernel_rfl) (fun _ _ _ h => h) (Or.inl ⟨by rfl, ?_⟩) hHeld ?_; rotate_left; (focus (intro w hSw; (try dsimp only at hSw); go_simp; try (with_reducible rfl))); (try simp only [Act.put, List.getElem_toArray, List.getElem_cons_succ, List.getElem_cons_zero, List.setIfInBounds_toArray, List.set_cons_zero, List.set_cons_succ]))
      have bx := blk_below HX.out HBq11.out
      have bz := bx.1
      have bf := bx.2.2
      obtain ⟨x0, x1, x2, x3, _⟩ := blk4 bx
      clear bx
      refine wpAnyE_ready (rs := [8]) (by kernel_rfl) (by simp) (AllReadyE.last rfl (fun K hK => ?_))
      go_simp
      refine hK.out _ _ (trivial) (fun hHeld => ?_)
      clear hK K
      (try simp only [Act.put, List.getElem_toArray, List.getElem_cons_succ, List.getElem_cons_zero, List.setIfInBounds_toArray, List.set_cons_zero, List.set_cons_succ])
      refine wpAnyE_done (by kernel_rfl) ?_
      go_wp2_with fail
      go_meet
      case rel => exact ⟨g, cap, rfl, HFIN.out _ g cap HBq11.out OWq11.out⟩
  case rest =>
  obtain ⟨g, cap, rfl, HXX, HOK, HBX⟩ := hcut
  obtain ⟨W9, hW9⟩ : ∃ x, x = wc := ⟨_, rfl⟩
  subst hW9
  obtain ⟨x0, x1, x2, x3, _⟩ := blk4 HXX.out
  have xz := HXX.out.1
  obtain ⟨V, vx, hR, hl, hk, _⟩ := doc_R2 HDD.out
  have HVK := Lib.hid (And.intro hl hk)
  have HWI := Lib.hid (rwith_any (docR_below hR HBX.out) ⟨m.f, m.at_, ⟨wa, m.loc.length, wcap⟩, ⟨some ⟨g, 0, none⟩, m.stk.length + 1, cap⟩⟩ (by have := HLL.out; omega))
  clear hR hl hk
  rw [HSL.out] at x3
  unfold rp aggRf at HWI
  simp only at HWI
  go_wp2_with fail
  refine HWI.out.mono ?_
  rintro e w9 ⟨rfl, lv', hd', hg'⟩
  have HD9 := Lib.hid hd'
  have HG9' := Lib.hid hg'
  have HG9 := Lib.hid (gx_pre HBX.out hg')
  clear hd' hg' x0 x1 x2 x3 xz
  go_wp2_with fail
  go_ret
  have hok := HOK.out
  have hv9 : RfOk w9 ⟨m.f, m.at_, ⟨wa, m.loc.length, wcap⟩, ⟨some ⟨g, 0, none⟩, m.stk.length + 1, cap⟩⟩ ⟨m.f, m.at_, m.loc, m.stk ++ [v]⟩ := rfOk_gx (tyB_call HDD.out.ty HBX.out) ⟨rfl, rfl, hok.l, hok.lt, hok.s, hok.st⟩ HG9'.out
  exact ⟨rfl, lv', doc_with HDD.out HG9.out HVK.out.1 HVK.out.2 HD9.out hv9, HG9.out⟩
end Go.Proofs.Ytdmidnmciaediaa
