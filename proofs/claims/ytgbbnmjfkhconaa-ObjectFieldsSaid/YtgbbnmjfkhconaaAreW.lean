/- Layer 3: (*View).Set where the word is there. Printed by mkareset.py. Conditions: the view's arena stands; few calls. -/
import Derived.Test.YtgbbnmjfkhconaaAreW0
namespace Go.Proofs.Ytgbbnmjfkhconaa
open Go.RowKit
set_option linter.unusedVariables false
set_option linter.unusedSimpArgs false
attribute [local go_sem] over_cell over_frozen
theorem blk_at (w : World) (c : Array Value) (T : TypeId) (k : Nat) (hk : k = w.heap.size) : Blk (w.alloc (.cells c T)) k c.toList := by rw [hk]; exact blk_new w c T
def st_world {w wa : World} {vb B : Nat} {ov wv ov' wv' : Value} {O W : List Int} (h : VSt w vb B ov wv wa ov' wv' O W) : World := wa
set_option maxHeartbeats 2000000 in
theorem vset_ok {w : World} {vb b g cap B : Nat} {n : Int} {ov wv : Value} {O W L : List Int} (H : AreAt w b g cap L) (V : ViewAt w vb (tp b) n ov wv B O W) (hb : b < B) (hg : g < B) (hvb : vb ≠ b ∧ vb ≠ g) (hBw : B ≤ w.heap.size) (h0 : 0 ≤ n) (h1 : n ≤ 100000) (hO : O.length ≤ 100000) (hW : W.length ≤ 100000) (k x : Int) (hk : wordE L.length k = 0) (hx : 0 ≤ x) (hx2 : x < 18446744073709551616) :
    Calls Try.prog 38 #[tp vb, .int .i64 k, .int .u64 x] w fun e w' => e = .returned (.tuple #[]) ∧ ∃ ov' wv', ViewAt w' vb (tp b) (n + 1) ov' wv' B (O ++ [getW L k.toNat]) (W ++ [k]) ∧ AreAt w' b g cap (setW L k x) ∧ GrowX w w' (fun j => j = vb ∨ j = g ∨ ov.ownBlock = some j ∨ wv.ownBlock = some j) ∧ ∀ j, ov'.ownBlock = some j → ov.ownBlock = some j ∨ w.heap.size ≤ j := by
  have hin := Lib.hid (vin_yes V.bk)
  have hw := aword_any H k
  rw [hk, if_pos rfl] at hw
  have HWD := Lib.hid hw
  have HH := Lib.hid H
  have HO := Lib.hid hO
  have HW := Lib.hid hW
  have HBw := Lib.hid hBw
  have HX := Lib.hid hx
  have HX2 := Lib.hid hx2
  have HK := Lib.hid hk
  have HN0 := Lib.hid h0
  have HN1 := Lib.hid h1
  have HB1 := Lib.hid hb
  have HB2 := Lib.hid hg
  have HB3 := Lib.hid hvb
  have S0 := st_start V
  obtain ⟨old, hold⟩ : ∃ old, old = getW L k.toNat := ⟨_, rfl⟩
  rw [← hold] at HWD ⊢
  clear hold
  have VH := Lib.hid V
  obtain ⟨c0, c1, c2, c3, cf⟩ := blk4 V.bk
  clear H hw hO hW hBw hx hx2 hk h0 h1 hb hg hvb
  unfold tp at hin HWD ⊢
  have c0 : w.cell? ⟨vb, 0, none⟩ = some (.pointer (some ⟨b, 0, none⟩)) := c0
  go_enter Try.func38, Try.ntmps38
  go_wp2_with fail
  refine hin.out.mono ?_
  rintro e w1 ⟨rfl, rfl⟩
  go_wp2_with fail
  refine HWD.out.mono ?_
  rintro e w1 ⟨rfl, rfl⟩
  go_upto_region 3 with fail
  go_cut [7] (fun vx wx => ∃ ov' wv', ViewAt wx vb (tp b) n ov' wv' B (O ++ [old]) (W ++ [k]) ∧ GrowX w wx (fun j => j = vb ∨ ov.ownBlock = some j ∨ wv.ownBlock = some j) ∧ ∀ j, ov'.ownBlock = some j → ov.ownBlock = some j ∨ w.heap.size ≤ j)
  case first =>
    refine wp_region_F (S := fun w' => w'.cell? ⟨vb, 2, none⟩ = some ov ∧ w'.cell? ⟨vb, 3, none⟩ = some wv) [18, 21] (by kernel_rfl) (S0.hd V.bk) (fun hHeld => ?_)
    clear c0 c1 c2 c3 cf
    (
      (refine wpAnyF_takeP (i := 0) (v := ?_) rfl (by kernel_rfl) (by kernel_rfl) (by kernel_rfl) (fun _ _ _ h => h) (Or.inl ⟨by rfl, ?_⟩) ?_; rotate_left; (focus (intro w hSw; (try dsimp only at hSw); go_simp; try (with_reducible rfl))); (try simp only [Act.put, List.getElem_toArray, List.getElem_cons_succ, List.getElem_cons_zero, List.setIfInBounds_toArray, List.set_cons_zero, List.set_cons_succ]))
      (refine wpAnyF_takeP (i := 1) (v := ?_) rfl (by kernel_rfl) (by kernel_rfl) (by kernel_rfl) (fun _ _ _ h => h) (Or.inl ⟨by rfl, ?_⟩) ?_; rotate_left; (focus (intro w hSw; (try dsimp only at hSw); go_simp; try (with_reducible rfl))); (try simp only [Act.put, List.getElem_toArray, List.getElem_cons_succ, List.getElem_cons_zero, List.setIfInBounds_toArray, List.set_cons_zero, List.set_cons_succ]))
      (refine wpAnyF_takeP (i := 2) (v := ?_) rfl (by kernel_rfl) (by kernel_rfl) (by kernel_rfl) (fun _ _ _ h => h) (Or.inl ⟨by rfl, ?_⟩) ?_; rotate_left; (focus (intro w hSw; (try dsimp only at hSw); go_simp; try (with_reducible rfl))); (try simp only [Act.put, List.getElem_toArray, List.getElem_cons_succ, List.getElem_cons_zero, List.setIfInBounds_toArray, List.set_cons_zero, List.set_cons_succ]))
      (refine wpAnyF_takeP (i := 3) (v := ?_) rfl (by kernel_rfl) (by kernel_rfl) (by kernel_rfl) (fun _ _ _ h => h) (Or.inl ⟨by rfl, ?_⟩) ?_; rotate_left; (focus (intro w hSw; (try dsimp only at hSw); go_simp; try (with_reducible rfl))); (try simp only [Act.put, List.getElem_toArray, List.getElem_cons_succ, List.getElem_cons_zero, List.setIfInBounds_toArray, List.set_cons_zero, List.set_cons_succ]))
      (refine wpAnyF_takeP (i := 4) (v := ?_) rfl (by kernel_rfl) (by kernel_rfl) (by kernel_rfl) (fun _ _ _ h => h) (Or.inl ⟨by rfl, ?_⟩) ?_; rotate_left; (focus (intro w hSw; (try dsimp only at hSw); go_simp; try (with_reducible rfl))); (try simp only [Act.put, List.getElem_toArray, List.getElem_cons_succ, List.getElem_cons_zero, List.setIfInBounds_toArray, List.set_cons_zero, List.set_cons_succ]))
      (refine wpAnyF_take (n := 40) (i := 5) (v := ?_) rfl (by kernel_rfl) (by kernel_rfl) (by kernel_rfl) (by kernel_rfl) (by kernel_rfl) (fun _ _ _ h => h) (Or.inl ⟨by rfl, ?_⟩) hHeld ?_; rotate_left; (focus (intro w hSw; (try dsimp only at hSw); go_simp; try (with_reducible rfl))); (try simp only [Act.put, List.getElem_toArray, List.getElem_cons_succ, List.getElem_cons_zero, List.setIfInBounds_toArray, List.set_cons_zero, List.set_cons_succ]))
      (refine wpAnyF_takeP (i := 6) (v := ?_) rfl (by kernel_rfl) (by kernel_rfl) (by kernel_rfl) (fun _ _ _ h => h) (Or.inl ⟨by rfl, ?_⟩) ?_; rotate_left; (focus (intro w hSw; (try dsimp only at hSw); go_simp; try (with_reducible rfl))); (try simp only [Act.put, List.getElem_toArray, List.getElem_cons_succ, List.getElem_cons_zero, List.setIfInBounds_toArray, List.set_cons_zero, List.set_cons_succ]))
      (refine wpAnyF_takeP (i := 9) (v := ?_) rfl (by kernel_rfl) (by kernel_rfl) (by kernel_rfl) (fun _ _ _ h => h) (Or.inl ⟨by rfl, ?_⟩) ?_; rotate_left; (focus (intro w hSw; (try dsimp only at hSw); go_simp; try (with_reducible rfl))); (try simp only [Act.put, List.getElem_toArray, List.getElem_cons_succ, List.getElem_cons_zero, List.setIfInBounds_toArray, List.set_cons_zero, List.set_cons_succ]))
      (refine wpAnyF_takeP (i := 10) (v := ?_) rfl (by kernel_rfl) (by kernel_rfl) (by kernel_rfl) (fun _ _ _ h => h) (Or.inl ⟨by rfl, ?_⟩) ?_; rotate_left; (focus (intro w hSw; (try dsimp only at hSw); go_simp; try (with_reducible rfl))); (try simp only [Act.put, List.getElem_toArray, List.getElem_cons_succ, List.getElem_cons_zero, List.setIfInBounds_toArray, List.set_cons_zero, List.set_cons_succ]))
      (refine wpAnyF_takeP (i := 11) (v := ?_) rfl (by kernel_rfl) (by kernel_rfl) (by kernel_rfl) (fun _ _ _ h => h) (Or.inl ⟨by rfl, ?_⟩) ?_; rotate_left; (focus (intro w hSw; (try dsimp only at hSw); go_simp; try (with_reducible rfl))); (try simp only [Act.put, List.getElem_toArray, List.getElem_cons_succ, List.getElem_cons_zero, List.setIfInBounds_toArray, List.set_cons_zero, List.set_cons_succ]))
      (refine wpAnyF_take (n := 40) (i := 12) (v := ?_) rfl (by kernel_rfl) (by kernel_rfl) (by kernel_rfl) (by kernel_rfl) (by kernel_rfl) (fun _ _ _ h => h) (Or.inl ⟨by rfl, ?_⟩) hHeld ?_; rotate_left; (focus (intro w hSw; (try dsimp only at hSw); go_simp; try (with_reducible rfl))); (try simp only [Act.put, List.getElem_toArray, List.getElem_cons_succ, List.getElem_cons_zero, List.setIfInBounds_toArray, List.set_cons_zero, List.set_cons_succ]))
      (refine wpAnyF_takeP (i := 13) (v := ?_) rfl (by kernel_rfl) (by kernel_rfl) (by kernel_rfl) (fun _ _ _ h => h) (Or.inl ⟨by rfl, ?_⟩) ?_; rotate_left; (focus (intro w hSw; (try dsimp only at hSw); go_simp; try (with_reducible rfl))); (try simp only [Act.put, List.getElem_toArray, List.getElem_cons_succ, List.getElem_cons_zero, List.setIfInBounds_toArray, List.set_cons_zero, List.set_cons_succ]))
      refine wpAnyF_ready (rs := [7, 14]) (by kernel_rfl) (by simp) (AllReadyF.cons rfl (fun K hK => ?_) (AllReadyF.cons rfl (fun K hK => ?_) AllReadyF.nil))
      · go_simp
        have S1 := st_alloc S0 (.cells #[.int .u64 old] U64T)
        have BO1 : Blk ((st_world S0).alloc (.cells #[.int .u64 old] U64T)) (w.heap.size) [.int .u64 old] := blk_at (st_world S0) #[.int .u64 old] U64T (w.heap.size) (by unfold st_world; simp)
        refine hK.out _ _ (S1.hd V.bk) (fun hHeld => ?_)
        clear hK K
        (try simp only [Act.put, List.getElem_toArray, List.getElem_cons_succ, List.getElem_cons_zero, List.setIfInBounds_toArray, List.set_cons_zero, List.set_cons_succ])
        refine wpAnyF_ready (rs := [8, 14]) (by kernel_rfl) (by simp) (AllReadyF.cons rfl (fun K hK => ?_) (AllReadyF.cons rfl (fun K hK => ?_) AllReadyF.nil))
        · refine step_append1 rowU64 rfl _ _ rfl rfl S1.o old _ _ rfl BO1 (by have := HO.out; omega) (by have := HO.out; unfold maxLen; omega) (Nat.le_trans HBw.out S1.gx.size) ?_
          intro g2 cap2 w2 own2 gr2 or2 lt2
          have S2 := st_appO S1 own2 gr2 or2
          clear own2 gr2 or2 lt2
          refine hK.out _ _ (S2.hd V.bk) (fun hHeld => ?_)
          clear hK K
          (try simp only [Act.put, List.getElem_toArray, List.getElem_cons_succ, List.getElem_cons_zero, List.setIfInBounds_toArray, List.set_cons_zero, List.set_cons_succ])
          refine wpAnyF_ready (rs := [14]) (by kernel_rfl) (by simp) (AllReadyF.cons rfl (fun K hK => ?_) AllReadyF.nil)
          go_simp
          have S3 := st_alloc S2 (.cells #[.int .i64 k] I64T)
          have BW3 : Blk ((st_world S2).alloc (.cells #[.int .i64 k] I64T)) (w2.heap.size) [.int .i64 k] := blk_at (st_world S2) #[.int .i64 k] I64T (w2.heap.size) (by unfold st_world; simp)
          have BO3 := blk_alloc BO1 (.cells #[.int .i64 k] I64T)
          refine hK.out _ _ (S3.hd V.bk) (fun hHeld => ?_)
          clear hK K
          (try simp only [Act.put, List.getElem_toArray, List.getElem_cons_succ, List.getElem_cons_zero, List.setIfInBounds_toArray, List.set_cons_zero, List.set_cons_succ])
          refine wpAnyF_ready (rs := [15]) (by kernel_rfl) (by simp) (AllReadyF.cons rfl (fun K hK => ?_) AllReadyF.nil)
          refine step_append1 rowI64 rfl _ _ rfl rfl S3.wh k _ _ rfl BW3 (by have := HW.out; omega) (by have := HW.out; unfold maxLen; omega) (Nat.le_trans HBw.out S3.gx.size) ?_
          intro g4 cap4 w4 own4 gr4 or4 lt4
          have S4 := st_appW S3 own4 gr4 or4
          clear own4 gr4 or4 lt4
          refine hK.out _ _ (S4.hd V.bk) (fun hHeld => ?_)
          clear hK K
          (try simp only [Act.put, List.getElem_toArray, List.getElem_cons_succ, List.getElem_cons_zero, List.setIfInBounds_toArray, List.set_cons_zero, List.set_cons_succ])
          (refine wpAnyF_takeP (i := 16) (v := ?_) rfl (by kernel_rfl) (by kernel_rfl) (by kernel_rfl) (fun _ _ _ h => h) (Or.inl ⟨by rfl, ?_⟩) ?_; rotate_left; (focus (intro w hSw; (try dsimp only at hSw); go_simp; try (with_reducible rfl))); (try simp only [Act.put, List.getElem_toArray, List.getElem_cons_succ, List.getElem_cons_zero, List.setIfInBounds_toArray, List.set_cons_zero, List.set_cons_succ]))
          (refine wpAnyF_takeP (i := 17) (v := ?_) rfl (by kernel_rfl) (by kernel_rfl) (by kernel_rfl) (fun _ _ _ h => h) (Or.inl ⟨by rfl, ?_⟩) ?_; rotate_left; (focus (intro w hSw; (try dsimp only at hSw); go_simp; try (with_reducible rfl))); (try simp only [Act.put, List.getElem_toArray, List.getElem_cons_succ, List.getElem_cons_zero, List.setIfInBounds_toArray, List.set_cons_zero, List.set_cons_succ]))
          obtain ⟨VV, GG⟩ := st_stores V S4
          have HVV := Lib.hid VV
          have HGG := Lib.hid GG
          clear VV GG
          obtain ⟨d0, d1, d2, d3, df⟩ := blk4 (blk_gx V.bk S4.gx (fun e => e.elim S4.ne1 S4.ne2))
          have dl := (blk_gx V.bk S4.gx (fun e => e.elim S4.ne1 S4.ne2)).1
          refine wpAnyF_ready (rs := [18]) (by kernel_rfl) (by simp) (AllReadyF.free rfl (by decide) (fun K hK => ?_) AllReadyF.nil)
          go_simp
          refine hK.out _ _ (trivial) (fun hHeld => ?_)
          clear hK K
          (try simp only [Act.put, List.getElem_toArray, List.getElem_cons_succ, List.getElem_cons_zero, List.setIfInBounds_toArray, List.set_cons_zero, List.set_cons_succ])
          (refine wpAnyF_takeP (i := 19) (v := ?_) rfl (by kernel_rfl) (by kernel_rfl) (by kernel_rfl) (fun _ _ _ h => h) (Or.inl ⟨by rfl, ?_⟩) ?_; rotate_left; (focus (intro w hSw; (try dsimp only at hSw); go_simp; try (with_reducible rfl))); (try simp only [Act.put, List.getElem_toArray, List.getElem_cons_succ, List.getElem_cons_zero, List.setIfInBounds_toArray, List.set_cons_zero, List.set_cons_succ]))
          (refine wpAnyF_takeP (i := 20) (v := ?_) rfl (by kernel_rfl) (by kernel_rfl) (by kernel_rfl) (fun _ _ _ h => h) (Or.inl ⟨by rfl, ?_⟩) ?_; rotate_left; (focus (intro w hSw; (try dsimp only at hSw); go_simp; try (with_reducible rfl))); (try simp only [Act.put, List.getElem_toArray, List.getElem_cons_succ, List.getElem_cons_zero, List.setIfInBounds_toArray, List.set_cons_zero, List.set_cons_succ]))
          refine wpAnyF_ready (rs := [21]) (by kernel_rfl) (by simp) (AllReadyF.free rfl (by decide) (fun K hK => ?_) AllReadyF.nil)
          go_simp
          refine hK.out _ _ (trivial) (fun hHeld => ?_)
          clear hK K
          (try simp only [Act.put, List.getElem_toArray, List.getElem_cons_succ, List.getElem_cons_zero, List.setIfInBounds_toArray, List.set_cons_zero, List.set_cons_succ])
          refine wpAnyF_done (by kernel_rfl) ?_
          go_wp2_with fail
          go_meet
          case rel => exact ⟨_, _, HVV.out, HGG.out, S4.no⟩
        · go_simp
          have S2 := st_alloc S1 (.cells #[.int .i64 k] I64T)
          have BW2 : Blk ((st_world S1).alloc (.cells #[.int .i64 k] I64T)) (w.heap.size + 1) [.int .i64 k] := blk_at (st_world S1) #[.int .i64 k] I64T (w.heap.size + 1) (by unfold st_world; simp)
          have BO2 := blk_alloc BO1 (.cells #[.int .i64 k] I64T)
          refine hK.out _ _ (S2.hd V.bk) (fun hHeld => ?_)
          clear hK K
          (try simp only [Act.put, List.getElem_toArray, List.getElem_cons_succ, List.getElem_cons_zero, List.setIfInBounds_toArray, List.set_cons_zero, List.set_cons_succ])
          refine wpAnyF_ready (rs := [8]) (by kernel_rfl) (by simp) (AllReadyF.cons rfl (fun K hK => ?_) AllReadyF.nil)
          refine step_append1 rowU64 rfl _ _ rfl rfl S2.o old _ _ rfl BO2 (by have := HO.out; omega) (by have := HO.out; unfold maxLen; omega) (Nat.le_trans HBw.out S2.gx.size) ?_
          intro g3 cap3 w3 own3 gr3 or3 lt3
          have S3 := st_appO S2 own3 gr3 or3
          have BW3 := blk_grown BW2 gr3 (st_neO V (by omega))
          clear own3 gr3 or3 lt3
          refine hK.out _ _ (S3.hd V.bk) (fun hHeld => ?_)
          clear hK K
          (try simp only [Act.put, List.getElem_toArray, List.getElem_cons_succ, List.getElem_cons_zero, List.setIfInBounds_toArray, List.set_cons_zero, List.set_cons_succ])
          refine wpAnyF_ready (rs := [15]) (by kernel_rfl) (by simp) (AllReadyF.cons rfl (fun K hK => ?_) AllReadyF.nil)
          refine step_append1 rowI64 rfl _ _ rfl rfl S3.wh k _ _ rfl BW3 (by have := HW.out; omega) (by have := HW.out; unfold maxLen; omega) (Nat.le_trans HBw.out S3.gx.size) ?_
          intro g4 cap4 w4 own4 gr4 or4 lt4
          have S4 := st_appW S3 own4 gr4 or4
          clear own4 gr4 or4 lt4
          refine hK.out _ _ (S4.hd V.bk) (fun hHeld => ?_)
          clear hK K
          (try simp only [Act.put, List.getElem_toArray, List.getElem_cons_succ, List.getElem_cons_zero, List.setIfInBounds_toArray, List.set_cons_zero, List.set_cons_succ])
          (refine wpAnyF_takeP (i := 16) (v := ?_) rfl (by kernel_rfl) (by kernel_rfl) (by kernel_rfl) (fun _ _ _ h => h) (Or.inl ⟨by rfl, ?_⟩) ?_; rotate_left; (focus (intro w hSw; (try dsimp only at hSw); go_simp; try (with_reducible rfl))); (try simp only [Act.put, List.getElem_toArray, List.getElem_cons_succ, List.getElem_cons_zero, List.setIfInBounds_toArray, List.set_cons_zero, List.set_cons_succ]))
          (refine wpAnyF_takeP (i := 17) (v := ?_) rfl (by kernel_rfl) (by kernel_rfl) (by kernel_rfl) (fun _ _ _ h => h) (Or.inl ⟨by rfl, ?_⟩) ?_; rotate_left; (focus (intro w hSw; (try dsimp only at hSw); go_simp; try (with_reducible rfl))); (try simp only [Act.put, List.getElem_toArray, List.getElem_cons_succ, List.getElem_cons_zero, List.setIfInBounds_toArray, List.set_cons_zero, List.set_cons_succ]))
          obtain ⟨VV, GG⟩ := st_stores V S4
          have HVV := Lib.hid VV
          have HGG := Lib.hid GG
          clear VV GG
          obtain ⟨d0, d1, d2, d3, df⟩ := blk4 (blk_gx V.bk S4.gx (fun e => e.elim S4.ne1 S4.ne2))
          have dl := (blk_gx V.bk S4.gx (fun e => e.elim S4.ne1 S4.ne2)).1
          refine wpAnyF_ready (rs := [18]) (by kernel_rfl) (by simp) (AllReadyF.free rfl (by decide) (fun K hK => ?_) AllReadyF.nil)
          go_simp
          refine hK.out _ _ (trivial) (fun hHeld => ?_)
          clear hK K
          (try simp only [Act.put, List.getElem_toArray, List.getElem_cons_succ, List.getElem_cons_zero, List.setIfInBounds_toArray, List.set_cons_zero, List.set_cons_succ])
          (refine wpAnyF_takeP (i := 19) (v := ?_) rfl (by kernel_rfl) (by kernel_rfl) (by kernel_rfl) (fun _ _ _ h => h) (Or.inl ⟨by rfl, ?_⟩) ?_; rotate_left; (focus (intro w hSw; (try dsimp only at hSw); go_simp; try (with_reducible rfl))); (try simp only [Act.put, List.getElem_toArray, List.getElem_cons_succ, List.getElem_cons_zero, List.setIfInBounds_toArray, List.set_cons_zero, List.set_cons_succ]))
          (refine wpAnyF_takeP (i := 20) (v := ?_) rfl (by kernel_rfl) (by kernel_rfl) (by kernel_rfl) (fun _ _ _ h => h) (Or.inl ⟨by rfl, ?_⟩) ?_; rotate_left; (focus (intro w hSw; (try dsimp only at hSw); go_simp; try (with_reducible rfl))); (try simp only [Act.put, List.getElem_toArray, List.getElem_cons_succ, List.getElem_cons_zero, List.setIfInBounds_toArray, List.set_cons_zero, List.set_cons_succ]))
          refine wpAnyF_ready (rs := [21]) (by kernel_rfl) (by simp) (AllReadyF.free rfl (by decide) (fun K hK => ?_) AllReadyF.nil)
          go_simp
          refine hK.out _ _ (trivial) (fun hHeld => ?_)
          clear hK K
          (try simp only [Act.put, List.getElem_toArray, List.getElem_cons_succ, List.getElem_cons_zero, List.setIfInBounds_toArray, List.set_cons_zero, List.set_cons_succ])
          refine wpAnyF_done (by kernel_rfl) ?_
          go_wp2_with fail
          go_meet
          case rel => exact ⟨_, _, HVV.out, HGG.out, S4.no⟩
      · go_simp
        have S1 := st_alloc S0 (.cells #[.int .i64 k] I64T)
        have BW1 : Blk ((st_world S0).alloc (.cells #[.int .i64 k] I64T)) (w.heap.size) [.int .i64 k] := blk_at (st_world S0) #[.int .i64 k] I64T (w.heap.size) (by unfold st_world; simp)
        refine hK.out _ _ (S1.hd V.bk) (fun hHeld => ?_)
        clear hK K
        (try simp only [Act.put, List.getElem_toArray, List.getElem_cons_succ, List.getElem_cons_zero, List.setIfInBounds_toArray, List.set_cons_zero, List.set_cons_succ])
        refine wpAnyF_ready (rs := [7]) (by kernel_rfl) (by simp) (AllReadyF.cons rfl (fun K hK => ?_) AllReadyF.nil)
        go_simp
        have S2 := st_alloc S1 (.cells #[.int .u64 old] U64T)
        have BO2 : Blk ((st_world S1).alloc (.cells #[.int .u64 old] U64T)) (w.heap.size + 1) [.int .u64 old] := blk_at (st_world S1) #[.int .u64 old] U64T (w.heap.size + 1) (by unfold st_world; simp)
        have BW2 := blk_alloc BW1 (.cells #[.int .u64 old] U64T)
        refine hK.out _ _ (S2.hd V.bk) (fun hHeld => ?_)
        clear hK K
        (try simp only [Act.put, List.getElem_toArray, List.getElem_cons_succ, List.getElem_cons_zero, List.setIfInBounds_toArray, List.set_cons_zero, List.set_cons_succ])
        refine wpAnyF_ready (rs := [8]) (by kernel_rfl) (by simp) (AllReadyF.cons rfl (fun K hK => ?_) AllReadyF.nil)
        refine step_append1 rowU64 rfl _ _ rfl rfl S2.o old _ _ rfl BO2 (by have := HO.out; omega) (by have := HO.out; unfold maxLen; omega) (Nat.le_trans HBw.out S2.gx.size) ?_
        intro g3 cap3 w3 own3 gr3 or3 lt3
        have S3 := st_appO S2 own3 gr3 or3
        have BW3 := blk_grown BW2 gr3 (st_neO V (by omega))
        clear own3 gr3 or3 lt3
        refine hK.out _ _ (S3.hd V.bk) (fun hHeld => ?_)
        clear hK K
        (try simp only [Act.put, List.getElem_toArray, List.getElem_cons_succ, List.getElem_cons_zero, List.setIfInBounds_toArray, List.set_cons_zero, List.set_cons_succ])
        refine wpAnyF_ready (rs := [15]) (by kernel_rfl) (by simp) (AllReadyF.cons rfl (fun K hK => ?_) AllReadyF.nil)
        refine step_append1 rowI64 rfl _ _ rfl rfl S3.wh k _ _ rfl BW3 (by have := HW.out; omega) (by have := HW.out; unfold maxLen; omega) (Nat.le_trans HBw.out S3.gx.size) ?_
        intro g4 cap4 w4 own4 gr4 or4 lt4
        have S4 := st_appW S3 own4 gr4 or4
        clear own4 gr4 or4 lt4
        refine hK.out _ _ (S4.hd V.bk) (fun hHeld => ?_)
        clear hK K
        (try simp only [Act.put, List.getElem_toArray, List.getElem_cons_succ, List.getElem_cons_zero, List.setIfInBounds_toArray, List.set_cons_zero, List.set_cons_succ])
        (refine wpAnyF_takeP (i := 16) (v := ?_) rfl (by kernel_rfl) (by kernel_rfl) (by kernel_rfl) (fun _ _ _ h => h) (Or.inl ⟨by rfl, ?_⟩) ?_; rotate_left; (focus (intro w hSw; (try dsimp only at hSw); go_simp; try (with_reducible rfl))); (try simp only [Act.put, List.getElem_toArray, List.getElem_cons_succ, List.getElem_cons_zero, List.setIfInBounds_toArray, List.set_cons_zero, List.set_cons_succ]))
        (refine wpAnyF_takeP (i := 17) (v := ?_) rfl (by kernel_rfl) (by kernel_rfl) (by kernel_rfl) (fun _ _ _ h => h) (Or.inl ⟨by rfl, ?_⟩) ?_; rotate_left; (focus (intro w hSw; (try dsimp only at hSw); go_simp; try (with_reducible rfl))); (try simp only [Act.put, List.getElem_toArray, List.getElem_cons_succ, List.getElem_cons_zero, List.setIfInBounds_toArray, List.set_cons_zero, List.set_cons_succ]))
        obtain ⟨VV, GG⟩ := st_stores V S4
        have HVV := Lib.hid VV
        have HGG := Lib.hid GG
        clear VV GG
        obtain ⟨d0, d1, d2, d3, df⟩ := blk4 (blk_gx V.bk S4.gx (fun e => e.elim S4.ne1 S4.ne2))
        have dl := (blk_gx V.bk S4.gx (fun e => e.elim S4.ne1 S4.ne2)).1
        refine wpAnyF_ready (rs := [18]) (by kernel_rfl) (by simp) (AllReadyF.free rfl (by decide) (fun K hK => ?_) AllReadyF.nil)
        go_simp
        refine hK.out _ _ (trivial) (fun hHeld => ?_)
        clear hK K
        (try simp only [Act.put, List.getElem_toArray, List.getElem_cons_succ, List.getElem_cons_zero, List.setIfInBounds_toArray, List.set_cons_zero, List.set_cons_succ])
        (refine wpAnyF_takeP (i := 19) (v := ?_) rfl (by kernel_rfl) (by kernel_rfl) (by kernel_rfl) (fun _ _ _ h => h) (Or.inl ⟨by rfl, ?_⟩) ?_; rotate_left; (focus (intro w hSw; (try dsimp only at hSw); go_simp; try (with_reducible rfl))); (try simp only [Act.put, List.getElem_toArray, List.getElem_cons_succ, List.getElem_cons_zero, List.setIfInBounds_toArray, List.set_cons_zero, List.set_cons_succ]))
        (refine wpAnyF_takeP (i := 20) (v := ?_) rfl (by kernel_rfl) (by kernel_rfl) (by kernel_rfl) (fun _ _ _ h => h) (Or.inl ⟨by rfl, ?_⟩) ?_; rotate_left; (focus (intro w hSw; (try dsimp only at hSw); go_simp; try (with_reducible rfl))); (try simp only [Act.put, List.getElem_toArray, List.getElem_cons_succ, List.getElem_cons_zero, List.setIfInBounds_toArray, List.set_cons_zero, List.set_cons_succ]))
        refine wpAnyF_ready (rs := [21]) (by kernel_rfl) (by simp) (AllReadyF.free rfl (by decide) (fun K hK => ?_) AllReadyF.nil)
        go_simp
        refine hK.out _ _ (trivial) (fun hHeld => ?_)
        clear hK K
        (try simp only [Act.put, List.getElem_toArray, List.getElem_cons_succ, List.getElem_cons_zero, List.setIfInBounds_toArray, List.set_cons_zero, List.set_cons_succ])
        refine wpAnyF_done (by kernel_rfl) ?_
        go_wp2_with fail
        go_meet
        case rel => exact ⟨_, _, HVV.out, HGG.out, S4.no⟩
    )
  case rest =>
    obtain ⟨ov', wv', V3, G3, hno⟩ := hcut
    have nb : ¬ (b = vb ∨ ov.ownBlock = some b ∨ wv.ownBlock = some b) := by
      rintro (q | q | q)
      · have := HB1.out; have := HB3.out; omega
      · have := (ownR_lt VH.out.o b q).1; have := HB1.out; omega
      · have := (ownR_lt VH.out.wh b q).1; have := HB1.out; omega
    have ng : ¬ (g = vb ∨ ov.ownBlock = some g ∨ wv.ownBlock = some g) := by
      rintro (q | q | q)
      · have := HB2.out; have := HB3.out; omega
      · have := (ownR_lt VH.out.o g q).1; have := HB2.out; omega
      · have := (ownR_lt VH.out.wh g q).1; have := HB2.out; omega
    have H3 := are_gx HH.out G3 nb ng
    have HS := Lib.hid (asetw_any H3 k x HX.out HX2.out)
    rw [HK.out] at HS
    have HV3 := Lib.hid V3
    have HG3 := Lib.hid G3
    have HNO := Lib.hid hno
    obtain ⟨d0, d1, d2, d3, df⟩ := blk4 V3.bk
    clear V3 G3 hno H3 nb ng c0 c1 c2 c3 cf
    unfold tp at HS d0
    go_wp2_with fail
    refine HS.out.mono ?_
    rintro e w4 ⟨rfl, H4, G4⟩
    have GX4 := gx_gb (X := fun j => j = g) G4 (fun k e => by injection e with e; exact e.symm)
    have V4 := view_gx HV3.out GX4 (by have := HB2.out; have := HB3.out; omega) (fun j hj e => by have := (ownR_lt HV3.out.o j hj).1; have := HB2.out; omega) (fun j hj e => by have := (ownR_lt HV3.out.wh j hj).1; have := HB2.out; omega)
    have G5 : GrowX w w4 (fun j => j = vb ∨ j = g ∨ ov.ownBlock = some j ∨ wv.ownBlock = some j) := gx_trans HG3.out GX4 (fun j _ e => by rcases e with e | e | e; (exact Or.inl e); (exact Or.inr (Or.inr (Or.inl e))); (exact Or.inr (Or.inr (Or.inr e)))) (fun j _ e => Or.inr (Or.inl e))
    have HR := Lib.hid (vright_ok V4.bk HN0.out (by have := HN1.out; omega))
    obtain ⟨V5, G6⟩ := view_count (m := n + 1) V4
    have GX6 := gx_gb (X := fun j => j = vb) G6 (fun k e => by injection e with e; exact e.symm)
    have H6 := are_gx H4 GX6 (by have := HB1.out; have := HB3.out; omega) (by have := HB2.out; have := HB3.out; omega)
    have G7 := gx_trans (Z := fun j => j = vb ∨ j = g ∨ ov.ownBlock = some j ∨ wv.ownBlock = some j) G5 GX6 (fun j _ e => e) (fun j _ e => Or.inl e)
    have HV5 := Lib.hid V5
    have HH6 := Lib.hid H6
    have HG7 := Lib.hid G7
    clear V5 H6 G7 GX6 G6 G5 V4 GX4 G4 H4
    unfold tp at HR
    go_wp2_with fail
    refine HR.out.mono ?_
    rintro e w5 ⟨rfl, rfl⟩
    go_wp2_with fail
    exact ⟨rfl, .tuple #[], by simp [results, Try.results38, go_sem], rfl, _, _, HV5.out, HH6.out, HG7.out, HNO.out⟩
end Go.Proofs.Ytgbbnmjfkhconaa
