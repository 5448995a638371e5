/- Layer 3: (*View).undo, and how a Do ends. Conditions: the view's arena stands; few calls. -/
import Derived.Test.YtgbbnmjfkhconaaAreW
import Derived.Test.YtgbbnmjfkhconaaAreA
import Derived.Defers
import Derived.Recover
import Derived.Laws.Pointers
namespace Go.Proofs.Ytgbbnmjfkhconaa
open Go.RowKit
set_option linter.unusedVariables false
set_option linter.unusedSimpArgs false
attribute [local go_sem] over_cell over_frozen
theorem own1_at {c : Elt Int} (hc : c.size = 1) {E : TypeId} {w : World} {B : Nat} {v : Value} {xs : List Int} (h : OwnR c E w B v xs) {m : Nat} (hm : m < xs.length) : ∃ g cap, v = .slice (some ⟨g, 0, none⟩) xs.length cap ∧ xs.length ≤ cap ∧ w.cell? ⟨g, m, none⟩ = (c.cells (xs.getD m 0))[0]? ∧ g < w.heap.size := by
  obtain ⟨g, cap, rfl, h1, h2, h3, h4, h5⟩ := ownR_form h (by omega)
  refine ⟨g, cap, rfl, h3, ?_, h2⟩
  obtain ⟨b, o, cap', e, _, _, _, h6⟩ := readR_pos (ownR_read h) (by omega)
  cases e
  have := h6 m hm 0 (by omega)
  rw [hc] at this
  rw [show 0 + (m * 1 + 0) = m by omega] at this
  rw [this, List.getD_eq_getElem?_getD, List.getElem?_eq_getElem hm]; rfl
theorem vundo_any {w : World} {vb b g cap B : Nat} {n : Int} {ov wv : Value} {O W L : List Int} (H : AreAt w b g cap L) (V : ViewAt w vb (tp b) n ov wv B O W) (hg : g < B) (hvb : B ≤ vb) (hlen : O.length = W.length) (hO : O.length ≤ 100000) (hnum : ∀ x ∈ O, 0 ≤ x ∧ x < 18446744073709551616) :
    Calls Try.prog 104 #[tp vb] w fun e w' => e = .returned (.tuple #[]) ∧ AreAt w' b g cap (undoL O.length O W L) ∧ w.grownBy w' (some g) := by
  have HH := Lib.hid H
  have HV := Lib.hid V
  have HL := Lib.hid hlen
  have HO := Lib.hid hO
  have HN := Lib.hid hnum
  have HG := Lib.hid hg
  have HVB := Lib.hid hvb
  have hVV : Hid (∀ wr, w.grownBy wr (some g) → ViewAt wr vb (tp b) n ov wv B O W) := Lib.hid (fun wr G => view_gx V (gx_gb (X := fun j => j = g) G (fun k e => by injection e with e; exact e.symm)) (by omega) (fun j hj e => by have := (ownR_lt V.o j hj).1; omega) (fun j hj e => by have := (ownR_lt V.wh j hj).1; omega))
  obtain ⟨wa, wcap, hwv⟩ : ∃ wa wcap, wv = .slice wa W.length wcap := by
    obtain ⟨a, c, e, _⟩ := readR_len (ownR_read V.wh); exact ⟨a, c, e⟩
  subst hwv
  obtain ⟨c0, c1, c2, c3, cf⟩ := blk4 V.bk
  have hW1 : (W.length : Int) ≤ 100000 := by omega
  have hW0 : (0 : Int) ≤ W.length := by omega
  clear H V hlen hO hnum hg hvb
  unfold tp
  go_enter Try.func104, Try.ntmps104
  go_wp2_with fail
  go_loopw [2] (fun i wr => ∃ (m : Nat) (M : List Int), m ≤ W.length ∧ i = .int .i64 ((m : Int) - 1) ∧ AreAt wr b g cap M ∧ w.grownBy wr (some g) ∧ Hid (undoL m O W M = undoL O.length O W L)) (fun i _ => (intOf i + 1).toNat)
  case atStart => exact ⟨W.length, L, Nat.le_refl _, rfl, HH.out, gb_refl _ _, by show undoL W.length O W L = _; rw [HL.out]⟩
  case round =>
    obtain ⟨m, M, hm, rfl, HM, G, hU⟩ := hrel
    rcases Nat.eq_zero_or_pos m with q | q
    · subst q
      have t1 : ((0 : Nat) : Int) - 1 = -1 := by decide
      have hE : Hid (M = undoL O.length O W L) := hU.out
      have HMM := Lib.hid HM
      have HGG := Lib.hid G
      clear HM G hU
      rw [t1]
      go_wp2_with fail
      exact ⟨rfl, .tuple #[], by simp [results, Try.results104, go_sem], rfl, by rw [← hE.out]; exact HMM.out, HGG.out⟩
    · obtain ⟨j, rfl⟩ : ∃ j, m = j + 1 := ⟨m - 1, by omega⟩
      have e1 : ((j + 1 : Nat) : Int) - 1 = (j : Int) := by omega
      rw [e1]
      have V2 := hVV.out wr G
      obtain ⟨g1, cp1, e2, f1, f2, f3⟩ := own1_at rfl V2.o (show j < O.length by have := HL.out; omega)
      subst e2
      obtain ⟨g2, cp2, e3, f4, f5, f6⟩ := own1_at rfl V2.wh (show j < W.length by omega)
      cases e3
      have f2 : wr.cell? ⟨g1, j, none⟩ = some (.int .u64 (O.getD j 0)) := f2
      have f5 : wr.cell? ⟨g2, j, none⟩ = some (.int .i64 (W.getD j 0)) := f5
      have hnj := HN.out (O.getD j 0) (by
        have hj : j < O.length := by have := HL.out; omega
        rw [List.getD_eq_getElem?_getD, List.getElem?_eq_getElem hj]; exact List.getElem_mem hj)
      have hj0 : (0 : Int) ≤ j := by omega
      have hjO : (j : Int) < O.length := by have := HL.out; omega
      have hjW : (j : Int) < W.length := by omega
      have hU2 : Hid (undoL j O W (setW M (W.getD j 0) (O.getD j 0)) = undoL O.length O W L) := hU.out
      generalize O.getD j 0 = ox at *
      generalize W.getD j 0 = wx at *
      have HS : Hid (∀ w', Below wr.heap.size wr w' → Calls Try.prog 32 #[tp b, .int .i64 wx, .int .u64 ox] w' fun e w2 => e = .returned (.int .i64 (wordE M.length wx)) ∧ AreAt w2 b g cap (setW M wx ox) ∧ w'.grownBy w2 (some g)) := Lib.hid (fun w' hb => asetw_any (are_below HM hb) _ _ hnj.1 hnj.2)
      obtain ⟨d0, d1, d2, d3, df⟩ := blk4 V2.bk
      have HGG := Lib.hid G
      clear V2 HM G hU hnj
      unfold tp at d0 HS
      go_upto_region 3 with fail
      refine wp_region_E (S := fun w' => w'.cell? ⟨vb, 0, none⟩ = some (.pointer (some ⟨b, 0, none⟩)) ∧ w'.cell? ⟨vb, 2, none⟩ = some (.slice (some ⟨g1, 0, none⟩) O.length cp1) ∧ w'.cell? ⟨vb, 3, none⟩ = some (.slice (some ⟨g2, 0, none⟩) W.length wcap) ∧ w'.cell? ⟨g1, j, none⟩ = some (.int .u64 ox) ∧ w'.cell? ⟨g2, j, none⟩ = some (.int .i64 wx)) 18 (by kernel_rfl) ⟨d0, d2, d3, f2, f5⟩ (fun hHeld => ?_)
      clear d0 d1 d2 d3 df f2 f5 c0 c1 c2 c3 cf
      (refine wpAnyE_take (n := 12) (i := 0) (v := ?_) rfl (by kernel_rfl) (by kernel_rfl) (by kernel_rfl) (by kernel_rfl) (by kernel_rfl) (fun _ _ _ h => h) (Or.inl ⟨by rfl, ?_⟩) hHeld ?_; rotate_left; (focus (intro w hSw; (try dsimp only at hSw); go_simp; try (with_reducible rfl))); (try simp only [Act.put, List.getElem_toArray, List.getElem_cons_succ, List.getElem_cons_zero, List.setIfInBounds_toArray, List.set_cons_zero, List.set_cons_succ]))
      (refine wpAnyE_take (n := 12) (i := 1) (v := ?_) rfl (by kernel_rfl) (by kernel_rfl) (by kernel_rfl) (by kernel_rfl) (by kernel_rfl) (fun _ _ _ h => h) (Or.inl ⟨by rfl, ?_⟩) hHeld ?_; rotate_left; (focus (intro w hSw; (try dsimp only at hSw); go_simp; try (with_reducible rfl))); (try simp only [Act.put, List.getElem_toArray, List.getElem_cons_succ, List.getElem_cons_zero, List.setIfInBounds_toArray, List.set_cons_zero, List.set_cons_succ]))
      (refine wpAnyE_take (n := 12) (i := 2) (v := ?_) rfl (by kernel_rfl) (by kernel_rfl) (by kernel_rfl) (by kernel_rfl) (by kernel_rfl) (fun _ _ _ h => h) (Or.inl ⟨by rfl, ?_⟩) hHeld ?_; rotate_left; (focus (intro w hSw; (try dsimp only at hSw); go_simp; try (with_reducible rfl))); (try simp only [Act.put, List.getElem_toArray, List.getElem_cons_succ, List.getElem_cons_zero, List.setIfInBounds_toArray, List.set_cons_zero, List.set_cons_succ]))
      (refine wpAnyE_take (n := 12) (i := 3) (v := ?_) rfl (by kernel_rfl) (by kernel_rfl) (by kernel_rfl) (by kernel_rfl) (by kernel_rfl) (fun _ _ _ h => h) (Or.inl ⟨by rfl, ?_⟩) hHeld ?_; rotate_left; (focus (intro w hSw; (try dsimp only at hSw); go_simp; try (with_reducible rfl))); (try simp only [Act.put, List.getElem_toArray, List.getElem_cons_succ, List.getElem_cons_zero, List.setIfInBounds_toArray, List.set_cons_zero, List.set_cons_succ]))
      (refine wpAnyE_take (n := 12) (i := 4) (v := ?_) rfl (by kernel_rfl) (by kernel_rfl) (by kernel_rfl) (by kernel_rfl) (by kernel_rfl) (fun _ _ _ h => h) (Or.inl ⟨by rfl, ?_⟩) hHeld ?_; rotate_left; (focus (intro w hSw; (try dsimp only at hSw); go_simp; try (with_reducible rfl))); (try simp only [Act.put, List.getElem_toArray, List.getElem_cons_succ, List.getElem_cons_zero, List.setIfInBounds_toArray, List.set_cons_zero, List.set_cons_succ]))
      (refine wpAnyE_take (n := 12) (i := 5) (v := ?_) rfl (by kernel_rfl) (by kernel_rfl) (by kernel_rfl) (by kernel_rfl) (by kernel_rfl) (fun _ _ _ h => h) (Or.inl ⟨by rfl, ?_⟩) hHeld ?_; rotate_left; (focus (intro w hSw; (try dsimp only at hSw); go_simp; try (with_reducible rfl))); (try simp only [Act.put, List.getElem_toArray, List.getElem_cons_succ, List.getElem_cons_zero, List.setIfInBounds_toArray, List.set_cons_zero, List.set_cons_succ]))
      (refine wpAnyE_take (n := 12) (i := 6) (v := ?_) rfl (by kernel_rfl) (by kernel_rfl) (by kernel_rfl) (by kernel_rfl) (by kernel_rfl) (fun _ _ _ h => h) (Or.inl ⟨by rfl, ?_⟩) hHeld ?_; rotate_left; (focus (intro w hSw; (try dsimp only at hSw); go_simp; try (with_reducible rfl))); (try simp only [Act.put, List.getElem_toArray, List.getElem_cons_succ, List.getElem_cons_zero, List.setIfInBounds_toArray, List.set_cons_zero, List.set_cons_succ]))
      (refine wpAnyE_take (n := 12) (i := 7) (v := ?_) rfl (by kernel_rfl) (by kernel_rfl) (by kernel_rfl) (by kernel_rfl) (by kernel_rfl) (fun _ _ _ h => h) (Or.inl ⟨by rfl, ?_⟩) hHeld ?_; rotate_left; (focus (intro w hSw; (try dsimp only at hSw); go_simp; try (with_reducible rfl))); (try simp only [Act.put, List.getElem_toArray, List.getElem_cons_succ, List.getElem_cons_zero, List.setIfInBounds_toArray, List.set_cons_zero, List.set_cons_succ]))
      (refine wpAnyE_take (n := 12) (i := 8) (v := ?_) rfl (by kernel_rfl) (by kernel_rfl) (by kernel_rfl) (by kernel_rfl) (by kernel_rfl) (fun _ _ _ h => h) (Or.inl ⟨by rfl, ?_⟩) hHeld ?_; rotate_left; (focus (intro w hSw; (try dsimp only at hSw); go_simp; try (with_reducible rfl))); (try simp only [Act.put, List.getElem_toArray, List.getElem_cons_succ, List.getElem_cons_zero, List.setIfInBounds_toArray, List.set_cons_zero, List.set_cons_succ]))
      (refine wpAnyE_take (n := 12) (i := 9) (v := ?_) rfl (by kernel_rfl) (by kernel_rfl) (by kernel_rfl) (by kernel_rfl) (by kernel_rfl) (fun _ _ _ h => h) (Or.inl ⟨by rfl, ?_⟩) hHeld ?_; rotate_left; (focus (intro w hSw; (try dsimp only at hSw); go_simp; try (with_reducible rfl))); (try simp only [Act.put, List.getElem_toArray, List.getElem_cons_succ, List.getElem_cons_zero, List.setIfInBounds_toArray, List.set_cons_zero, List.set_cons_succ]))
      (refine wpAnyE_take (n := 12) (i := 10) (v := ?_) rfl (by kernel_rfl) (by kernel_rfl) (by kernel_rfl) (by kernel_rfl) (by kernel_rfl) (fun _ _ _ h => h) (Or.inl ⟨by rfl, ?_⟩) hHeld ?_; rotate_left; (focus (intro w hSw; (try dsimp only at hSw); go_simp; try (with_reducible rfl))); (try simp only [Act.put, List.getElem_toArray, List.getElem_cons_succ, List.getElem_cons_zero, List.setIfInBounds_toArray, List.set_cons_zero, List.set_cons_succ]))
      (refine wpAnyE_take (n := 12) (i := 11) (v := ?_) rfl (by kernel_rfl) (by kernel_rfl) (by kernel_rfl) (by kernel_rfl) (by kernel_rfl) (fun _ _ _ h => h) (Or.inl ⟨by rfl, ?_⟩) hHeld ?_; rotate_left; (focus (intro w hSw; (try dsimp only at hSw); go_simp; try (with_reducible rfl))); (try simp only [Act.put, List.getElem_toArray, List.getElem_cons_succ, List.getElem_cons_zero, List.setIfInBounds_toArray, List.set_cons_zero, List.set_cons_succ]))
      (refine wpAnyE_take (n := 12) (i := 12) (v := ?_) rfl (by kernel_rfl) (by kernel_rfl) (by kernel_rfl) (by kernel_rfl) (by kernel_rfl) (fun _ _ _ h => h) (Or.inl ⟨by rfl, ?_⟩) hHeld ?_; rotate_left; (focus (intro w hSw; (try dsimp only at hSw); go_simp; try (with_reducible rfl))); (try simp only [Act.put, List.getElem_toArray, List.getElem_cons_succ, List.getElem_cons_zero, List.setIfInBounds_toArray, List.set_cons_zero, List.set_cons_succ]))
      (refine wpAnyE_take (n := 12) (i := 13) (v := ?_) rfl (by kernel_rfl) (by kernel_rfl) (by kernel_rfl) (by kernel_rfl) (by kernel_rfl) (fun _ _ _ h => h) (Or.inl ⟨by rfl, ?_⟩) hHeld ?_; rotate_left; (focus (intro w hSw; (try dsimp only at hSw); go_simp; try (with_reducible rfl))); (try simp only [Act.put, List.getElem_toArray, List.getElem_cons_succ, List.getElem_cons_zero, List.setIfInBounds_toArray, List.set_cons_zero, List.set_cons_succ]))
      (refine wpAnyE_take (n := 12) (i := 14) (v := ?_) rfl (by kernel_rfl) (by kernel_rfl) (by kernel_rfl) (by kernel_rfl) (by kernel_rfl) (fun _ _ _ h => h) (Or.inl ⟨by rfl, ?_⟩) hHeld ?_; rotate_left; (focus (intro w hSw; (try dsimp only at hSw); go_simp; try (with_reducible rfl))); (try simp only [Act.put, List.getElem_toArray, List.getElem_cons_succ, List.getElem_cons_zero, List.setIfInBounds_toArray, List.set_cons_zero, List.set_cons_succ]))
      (refine wpAnyE_take (n := 12) (i := 15) (v := ?_) rfl (by kernel_rfl) (by kernel_rfl) (by kernel_rfl) (by kernel_rfl) (by kernel_rfl) (fun _ _ _ h => h) (Or.inl ⟨by rfl, ?_⟩) hHeld ?_; rotate_left; (focus (intro w hSw; (try dsimp only at hSw); go_simp; try (with_reducible rfl))); (try simp only [Act.put, List.getElem_toArray, List.getElem_cons_succ, List.getElem_cons_zero, List.setIfInBounds_toArray, List.set_cons_zero, List.set_cons_succ]))
      (refine wpAnyE_take (n := 12) (i := 16) (v := ?_) rfl (by kernel_rfl) (by kernel_rfl) (by kernel_rfl) (by kernel_rfl) (by kernel_rfl) (fun _ _ _ h => h) (Or.inl ⟨by rfl, ?_⟩) hHeld ?_; rotate_left; (focus (intro w hSw; (try dsimp only at hSw); go_simp; try (with_reducible rfl))); (try simp only [Act.put, List.getElem_toArray, List.getElem_cons_succ, List.getElem_cons_zero, List.setIfInBounds_toArray, List.set_cons_zero, List.set_cons_succ]))
      (refine wpAnyE_take (n := 12) (i := 17) (v := ?_) rfl (by kernel_rfl) (by kernel_rfl) (by kernel_rfl) (by kernel_rfl) (by kernel_rfl) (fun _ _ _ h => h) (Or.inl ⟨by rfl, ?_⟩) hHeld ?_; rotate_left; (focus (intro w hSw; (try dsimp only at hSw); go_simp; try (with_reducible rfl))); (try simp only [Act.put, List.getElem_toArray, List.getElem_cons_succ, List.getElem_cons_zero, List.setIfInBounds_toArray, List.set_cons_zero, List.set_cons_succ]))
      refine wpAnyE_ready (rs := [18]) (by kernel_rfl) (by simp) (AllReadyE.last rfl (fun K hK => ?_))
      go_simp
      refine (HS.out _ (b_drew (Below.refl _ _))).mono ?_
      rintro e w4 ⟨rfl, H4, G4⟩
      have H4H := Lib.hid H4
      have G4H : Hid (wr.grownBy w4 (some g)) := below_gb (b_drew (Below.refl _ _)) G4
      clear H4 G4
      refine hK.out _ _ (trivial) (fun hHeld => ?_)
      clear hK K
      (try simp only [Act.put, List.getElem_toArray, List.getElem_cons_succ, List.getElem_cons_zero, List.setIfInBounds_toArray, List.set_cons_zero, List.set_cons_succ])
      refine wpAnyE_done (by kernel_rfl) ?_
      go_wp2_with fail
      exact ⟨⟨j, setW M wx ox, by omega, by go_num, H4H.out, gb_trans HGG.out G4H.out, hU2⟩, by simp only [intOf]; omega⟩
end Go.Proofs.Ytgbbnmjfkhconaa
