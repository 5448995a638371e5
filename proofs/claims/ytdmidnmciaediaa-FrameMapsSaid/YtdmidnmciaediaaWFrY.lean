/- Layer 28: the contracts of the program's Go and Frame. Conditions: those stated. -/
import Derived.Test.YtdmidnmciaediaaWFrX
import Derived.Test.YtdmidnmciaediaaWHeldE
namespace Go.Proofs.Ytdmidnmciaediaa
open Go.RowKit
set_option linter.unusedVariables false
set_option linter.unusedSimpArgs false
attribute [local go_sem] over_cell over_frozen
variable {w0 w w' : World} {s : Nat} {p : PrV} {lv : Sl} {ds : List FrD} {L : List FrM} {d : FrD} {m : FrM}
set_option maxRecDepth 100000 in
set_option maxHeartbeats 2000000 in
theorem fgo_out {P : PrM} (h : FrsAt w0 w s p lv (ds ++ [d]) (L ++ [m])) (hP : ReadP w0 p P) (k : Nat) (hk : k < P.fs.length) (hf : m.f = k) (a : Int) (hcl : P.fs[k].code.length ≤ 100) (ha : ¬ (0 ≤ a ∧ a < P.fs[k].code.length)) : Calls Try.prog 38 #[fp s, .int .i64 a] w fun e w' => e = .returned (.int .i64 3) ∧ Below w.heap.size w w' := by
  have HF := Lib.hid (ftop_any h)
  obtain ⟨c0, c1, _, _, cf⟩ := fr_cells (frs_ok h)
  have hdz := (frs_ok h).hd.1
  obtain ⟨s3, _, _⟩ := frs_cells h
  have sz := h.hd.1
  obtain ⟨fl1, fl2, fl3⟩ := fns_len hP
  have fl4 := cap_le fl3
  obtain ⟨pb, po, epa, pv, plv, cv, hfn⟩ := fns_at hP hk
  have hfw := fnAt_below hfn h.be
  obtain ⟨_, ccap, ecv, hc1, hc2⟩ := readR_len hfn.rc
  injection ecv with _ ecn _
  have f3 := hfw.c
  have fz := hfw.lt
  rw [fl1, epa] at s3
  rw [hf] at c0
  have k0 : (0 : Int) ≤ k := by omega
  have k1 : (k : Int) < P.fs.length := by omega
  have kc : (k : Int) < p.f.c := by omega
  obtain ⟨N, hN⟩ : ∃ N, N = P.fs[k].code.length := ⟨_, rfl⟩
  rw [ecn, ← hN] at f3
  have n9 : (N : Int) ≤ 100 := by omega
  have ha2 : a < 0 ∨ (0 ≤ a ∧ (N : Int) ≤ a) := by omega
  clear h hf hN hP hfn hfw hc1 hc2 fl1 fl2 fl3 ecn ha epa
  unfold fp at *
  rcases ha2 with a1 | ⟨a1, a2⟩
  · skip
    have d1 : decide (a < 0) = true := decide_eq_true a1
    go_enter Try.func38, Try.ntmps38
    go_wp2_with fail
    refine HF.out.mono ?_
    rintro e w1 ⟨rfl, rfl⟩
    go_upto_region 4 with fail
    go_big_quiet (fail)
    go_wp2_with fail
    go_ret
    exact ⟨rfl, b_drewN (Below.refl _ _) _⟩
  · skip
    have d1 : decide (a < 0) = false := decide_eq_false (by omega)
    have d2 : decide ((N : Int) ≤ a) = true := decide_eq_true a2
    have a3 : ¬ (a < 0) := by omega
    go_enter Try.func38, Try.ntmps38
    go_wp2_with fail
    refine HF.out.mono ?_
    rintro e w1 ⟨rfl, rfl⟩
    go_upto_region 4 with fail
    go_big_quiet (fail)
    go_wp2_with fail
    go_ret
    exact ⟨rfl, b_drewN (Below.refl _ _) _⟩
set_option maxRecDepth 100000 in
set_option maxHeartbeats 2000000 in
theorem fgo_any {P : PrM} (h : FrsAt w0 w s p lv (ds ++ [d]) (L ++ [m])) (hP : ReadP w0 p P) (k : Nat) (hk : k < P.fs.length) (hf : m.f = k) (a : Int) (hcl : P.fs[k].code.length ≤ 100) (ha0 : 0 ≤ a) (ha1 : a < P.fs[k].code.length) : Calls Try.prog 38 #[fp s, .int .i64 a] w (FSetEnd w0 w s p lv (ds ++ [d]) L ⟨m.f, a, m.loc, m.stk⟩) := by
  have HF := Lib.hid (ftop_any h)
  obtain ⟨c0, c1, _, _, cf⟩ := fr_cells (frs_ok h)
  have hdz := (frs_ok h).hd.1
  obtain ⟨s3, _, _⟩ := frs_cells h
  have sz := h.hd.1
  obtain ⟨fl1, fl2, fl3⟩ := fns_len hP
  have fl4 := cap_le fl3
  obtain ⟨pb, po, epa, pv, plv, cv, hfn⟩ := fns_at hP hk
  have hfw := fnAt_below hfn h.be
  obtain ⟨_, ccap, ecv, hc1, hc2⟩ := readR_len hfn.rc
  injection ecv with _ ecn _
  have f3 := hfw.c
  have fz := hfw.lt
  rw [fl1, epa] at s3
  rw [hf] at c0
  have k0 : (0 : Int) ≤ k := by omega
  have k1 : (k : Int) < P.fs.length := by omega
  have kc : (k : Int) < p.f.c := by omega
  obtain ⟨N, hN⟩ : ∃ N, N = P.fs[k].code.length := ⟨_, rfl⟩
  rw [ecn, ← hN] at f3
  have n9 : (N : Int) ≤ 100 := by omega
  have d1 : decide (a < 0) = false := decide_eq_false (by omega)
  have d2 : decide ((N : Int) ≤ a) = false := decide_eq_false (by omega)
  have a3 : ¬ (a < 0) := by omega
  have a4 : ¬ ((N : Int) ≤ a) := by omega
  have HFIN : Hid (∀ W9, Below w.heap.size w W9 → FSetEnd w0 w s p lv (ds ++ [d]) L ⟨m.f, a, m.loc, m.stk⟩ (.returned (.int .i64 0)) (W9.setCell ⟨d.b, 1, none⟩ (.int .i64 a))) := Lib.hid (fun W9 hb => by
    have h9 := frs_below h hb
    have ho := frs_ok h9
    have hgr : GrowX W9 (W9.setCell ⟨d.b, 1, none⟩ (.int .i64 a)) (fun j => j = d.b ∨ d.owns j) := gx_set (gx_refl _ _) (p := ⟨d.b, 1, none⟩) (Or.inr (Or.inl rfl)) _
    have hne : ∀ j, d.owns j → j ≠ d.b := fun j hj e => by
      have t := frOk_ty ho j hj
      rw [e, ho.ty] at t; injection t with t; exact absurd t (by decide)
    have hok : FrOk w0.heap.size (W9.setCell ⟨d.b, 1, none⟩ (.int .i64 a)) d ⟨m.f, a, m.loc, m.stk⟩ := ⟨blk_set ho.hd 1 _, by rw [tyB_set]; exact ho.ty, ownsRow_setCell_other ho.l (a := ⟨d.b, 1, none⟩) (fun e => hne d.b (Or.inl e) rfl) _, ownsRow_setCell_other ho.s (a := ⟨d.b, 1, none⟩) (fun e => hne d.b (Or.inr e) rfl) _, ho.ne, ho.lo⟩
    refine ⟨rfl, frs_top h9 hgr hok rfl (fun k hk => Or.inl hk), grT_trans (grT_below hb) (grT_of hgr (fun j hj hx => ?_))⟩
    rcases hx with rfl | hx
    · exact Or.inr (Or.inr (Or.inl ho.ty))
    · exact Or.inr (Or.inr (Or.inr (frOk_ty ho j hx))))
  clear h hf hN hP hfn hfw hc1 hc2 fl1 fl2 fl3 ecn epa
  unfold fp at *
  go_enter Try.func38, Try.ntmps38
  go_wp2_with fail
  refine HF.out.mono ?_
  rintro e w1 ⟨rfl, rfl⟩
  go_upto_region 4 with fail
  go_big_quiet (fail)
  obtain ⟨W1, hW1⟩ : ∃ x, x = w.drewN nq := ⟨_, rfl⟩
  rw [← hW1]
  have hbD : Below w.heap.size w W1 := by rw [hW1]; exact b_drewN (Below.refl _ _) _
  have c0' := ((bcell hbD).1 _ _ hdz).trans c0
  have c1' := ((bcell hbD).1 _ _ hdz).trans c1
  have cf' : ∀ i, W1.frozen? ⟨d.b, i, none⟩ = false := fun i => ((bcell hbD).2 _ _ hdz).trans (cf i)
  have hdz' := Nat.lt_of_lt_of_le hdz hbD.size
  have HBD := Lib.hid hbD
  clear hW1 hbD c0 c1 cf hdz s3 sz f3 fz
  go_wp2_with fail
  go_ret
  exact HFIN.out W1 HBD.out
end Go.Proofs.Ytdmidnmciaediaa
