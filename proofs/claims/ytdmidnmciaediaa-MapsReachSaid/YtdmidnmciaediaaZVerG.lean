/- Layer 26: the contract of the program's effect. Conditions: those stated. -/
import Derived.Test.YtdmidnmciaediaaZVerF
import Derived.Test.YtdmidnmciaediaaZVerE
import Derived.Test.YtdmidnmciaediaaZVerT
namespace Go.Proofs.Ytdmidnmciaediaa
open Go.RowKit
set_option linter.unusedVariables false
set_option linter.unusedSimpArgs false
attribute [local go_sem] over_cell over_frozen
theorem readI_box {w1 w' : World} {X : Nat} {o : Obj} {v : Value} {xs : List Int} (h : ReadI w1 v xs) (hX : X = w1.heap.size) (hg : (w1.alloc o).grownBy w' (some X)) : ReadI w' v xs := by
  refine readI_kept h (fun b _ hlt => ?_) (Nat.le_trans (by simp) hg.size)
  rw [hg.block b (by simp; omega) (by intro e; injection e with e; omega)]
  exact (b_alloc (Below.refl w1.heap.size w1) o).block b hlt
theorem concat_n {a1 a2 : Option Addr} {n1 n2 c1 c2 r : Nat} {xs ys : List Int} {w : World} (e1 : xs.length = n1) (e2 : ys.length = n2) (h1 : ReadI w (.slice a1 n1 c1) xs) (h2 : ReadI w (.slice a2 n2 c2) ys) (hr : Blk w r [.slice a1 n1 c1, .slice a2 n2 c2]) (hx : n1 ≤ 100) (hy : n2 ≤ 100) : Calls Try.prog 89 #[.slice (some ⟨r, 0, none⟩) 2 2] w (RetI w (xs ++ ys)) := by
  subst e1 e2
  exact concat_any a1 a2 c1 c2 r xs ys w h1 h2 hr hx hy
/-- A deal in a block of its own. -/
def DBox (w : World) (X : Nat) (D : Deal) : Prop := ∃ ta tc ka kc, Blk w X [.slice ta D.t.length tc, .slice ka D.p.length kc, .int .i64 D.c] ∧ ReadI w (.slice ta D.t.length tc) D.t ∧ ReadI w (.slice ka D.p.length kc) D.p
set_option maxHeartbeats 400000 in
theorem turn_in (op x a b : Int) (sa : Option Addr) (sc : Nat) (P : PrM) (f : FnM) (st : List Int) (W0 w : World) (hst : ReadI W0 (.slice sa st.length sc) st) (hb : Below W0.heap.size W0 w) (hl : st.length ≤ 100) (h : op = 8 ∨ op = 9) : Calls Try.prog 109 #[.agg #[.int .i64 op, .int .u64 x, .int .i64 a, .int .i64 b], .slice sa st.length sc] w (RetT W0.heap.size w (deal P f ⟨op, x, a, b⟩ st)) := by
  rcases h with rfl | rfl
  · exact vturn8 x a b sa sc st W0 w hst hb hl
  · exact vturn9 x a b sa sc st W0 w hst hb hl
set_option maxRecDepth 100000 in
set_option maxHeartbeats 8000000 in
theorem veff_any (p : PrV) (P : PrM) (v : FnV) (f : FnM) (k : Nat) (sa : Option Addr) (sc : Nat) (st : List Int) (w : World) (h : ReadP w p P) (hs : SmallP P) (hf : DeepF w v f) (hsf : SmallF f) (hst : ReadI w (.slice sa st.length sc) st) (hl : st.length ≤ 100) (hk : k < f.code.length) (hk2 : f.code.length ≤ 200) (hG : GoodE P f) : Calls Try.prog 82 #[aggP p, aggF v, .int .i64 k, .slice sa st.length sc] w (RetD w (effect P f k st)) := by
  obtain ⟨u, ⟨ga, gn, gc⟩, m0, ⟨fa, fn, fc⟩⟩ := p
  obtain ⟨⟨pa, pn, pc⟩, ⟨la, ln, lc⟩, r, ⟨ca, cn, cc⟩⟩ := v
  have HR := Lib.hid h; have HF := Lib.hid hf; have HST := Lib.hid hst; have HS := Lib.hid hs; have HSF := Lib.hid hsf; have HG := Lib.hid hG
  obtain ⟨cb, co, ccap, ec, hc1, hc2, hcb, h4⟩ := readR_pos hf.c (by omega)
  have ec2 : Value.slice ca cn cc = .slice (some ⟨cb, co, none⟩) f.code.length ccap := ec
  injection ec2 with ec3 ec4 ec5
  subst ec3 ec4 ec5
  have HC4 := Lib.hid h4
  have hcap := cap_le hc2
  obtain ⟨d0, d1, d2, d3⟩ := in_cells h4 k hk
  have hgi := hG.i _ (List.getElem_mem hk)
  obtain ⟨i, hi⟩ : ∃ i, i = f.code[k] := ⟨_, rfl⟩
  have HCI : Hid (codeAt f k = i) := Lib.hid (by rw [hi]; unfold codeAt; rw [show ((k : Int).toNat) = k from rfl, List.getD_eq_getElem?_getD, List.getElem?_eq_getElem hk]; rfl)
  rw [← hi] at d0 d1 d2 d3 hgi
  obtain ⟨iop, ix, ia, ib⟩ := i
  simp only at d0 d1 d2 d3 hgi
  obtain ⟨o0, o37, ia0⟩ := hgi
  have HD4 := Lib.hid (And.intro d0 (And.intro d1 (And.intro d2 d3)))
  obtain ⟨D, hD⟩ : ∃ D, D = deal P f ⟨iop, ix, ia, ib⟩ st := ⟨_, rfl⟩
  have HD := Lib.hid hD
  obtain ⟨bd1, bd2, bd3⟩ : 0 ≤ D.c ∧ D.t.length ≤ 10 ∧ D.p.length ≤ 2 := by rw [hD]; exact deal_bd P f _ st hs o37
  obtain ⟨E, hE⟩ : ∃ E, E = effect P f k st := ⟨_, rfl⟩
  have HE : Hid (E = effD f ⟨iop, ix, ia, ib⟩ k st D) := Lib.hid (by rw [hE, hD]; unfold effect; rw [HCI.out])
  rw [← hE]
  have HW2 := Lib.hid (ways_in (i := ⟨iop, ix, ia, ib⟩) (k := k) ia0)
  obtain ⟨hq0, hsc, hsc2⟩ := int_len (s := ⟨sa, st.length, sc⟩) hst
  simp only at hsc hsc2
  have HK2 := Lib.hid hk2
  have HHK := Lib.hid hk
  have HCB := Lib.hid hcb
  have k0 : (0 : Int) ≤ k := by omega
  have k1 : (k : Int) < f.code.length := by omega
  have k2 : (k : Int) < cc := by omega
  have HL := Lib.hid hl
  clear hq0 h hf hst hs hsf hG ec h4 hD hE hk2 hi d0 d1 d2 d3 hc2 hcb
  unfold aggP aggF Sl.v
  simp only
  obtain ⟨d0, d1, d2, d3⟩ := HD4.out
  have hcb := HCB.out
  have hcb1 : cb < w.heap.size + 1 := by omega
  have hcb2 : cb < w.heap.size + 1 + 1 := by omega
  go_enter Try.func82, Try.ntmps82
  go_upto_region 2 with fail
  clear d0 d1 d2 d3 hcb hcb1 hcb2
  refine wp_named ?_
  intro W hW
  obtain ⟨q1, q2, q3, q4⟩ : Blk W w.heap.size [.bool u, .slice ga gn gc, .int .i64 m0, .slice fa fn fc] ∧ Blk W (w.heap.size + 1) [.slice pa pn pc, .slice la ln lc, .int .i64 r, .slice (some ⟨cb, co, none⟩) f.code.length cc] ∧ Blk W (w.heap.size + 2) [.int .i64 iop, .int .u64 ix, .int .i64 ia, .int .i64 ib] ∧ Below w.heap.size w W := by
    rw [hW]
    first
      | exact boxes3 w #[.bool u, .slice ga gn gc, .int .i64 m0, .slice fa fn fc] #[.slice pa pn pc, .slice la ln lc, .int .i64 r, .slice (some ⟨cb, co, none⟩) f.code.length cc] #[.int .i64 iop, .int .u64 ix, .int .i64 ia, .int .i64 ib] _ _ _
      | (obtain ⟨e1, e2, e3, e4⟩ := boxes3 w #[.bool u, .slice ga gn gc, .int .i64 m0, .slice fa fn fc] #[.slice pa pn pc, .slice la ln lc, .int .i64 r, .slice (some ⟨cb, co, none⟩) f.code.length cc] #[.int .i64 0, .int .u64 0, .int .i64 0, .int .i64 0] 31 122 123
         have gg := gb_set (gb_set (gb_set (gb_set (gb_refl (((w.alloc (.cells #[.bool u, .slice ga gn gc, .int .i64 m0, .slice fa fn fc] 31)).alloc (.cells #[.slice pa pn pc, .slice la ln lc, .int .i64 r, .slice (some ⟨cb, co, none⟩) f.code.length cc] 122)).alloc (.cells #[.int .i64 0, .int .u64 0, .int .i64 0, .int .i64 0] 123)) (some (w.heap.size + 2))) 0 none (.int .i64 iop)) 1 none (.int .u64 ix)) 2 none (.int .i64 ia)) 3 none (.int .i64 ib)
         exact ⟨blk_grown e1 gg (by intro z; injection z with z; omega), blk_grown e2 gg (by intro z; injection z with z; omega), blk_set (blk_set (blk_set (blk_set e3 0 _) 1 _) 2 _) 3 _, b_grown e4 gg (by omega)⟩)
  have HBW := Lib.hid q4
  have HK : Hid (∀ w', Below W.heap.size W w' → (w'.cell? ⟨w.heap.size, 0, none⟩ = some (.bool u) ∧ w'.cell? ⟨w.heap.size, 1, none⟩ = some (.slice ga gn gc) ∧ w'.cell? ⟨w.heap.size, 2, none⟩ = some (.int .i64 m0) ∧ w'.cell? ⟨w.heap.size, 3, none⟩ = some (.slice fa fn fc)) ∧ (w'.cell? ⟨w.heap.size + 1, 0, none⟩ = some (.slice pa pn pc) ∧ w'.cell? ⟨w.heap.size + 1, 1, none⟩ = some (.slice la ln lc) ∧ w'.cell? ⟨w.heap.size + 1, 2, none⟩ = some (.int .i64 r) ∧ w'.cell? ⟨w.heap.size + 1, 3, none⟩ = some (.slice (some ⟨cb, co, none⟩) f.code.length cc)) ∧ (w'.cell? ⟨w.heap.size + 2, 0, none⟩ = some (.int .i64 iop) ∧ w'.cell? ⟨w.heap.size + 2, 1, none⟩ = some (.int .u64 ix) ∧ w'.cell? ⟨w.heap.size + 2, 2, none⟩ = some (.int .i64 ia) ∧ w'.cell? ⟨w.heap.size + 2, 3, none⟩ = some (.int .i64 ib)) ∧ (w.heap.size < w'.heap.size ∧ w.heap.size + 1 < w'.heap.size ∧ w.heap.size + 1 + 1 < w'.heap.size)) := Lib.hid (fun w' hb => by
    have k1 := blk_below q1 hb; have k2 := blk_below q2 hb; have k3 := blk_below q3 hb
    obtain ⟨y0, y1, y2, y3, _⟩ := blk4 k1
    obtain ⟨z0, z1, z2, z3, _⟩ := blk4 k2
    obtain ⟨x0, x1, x2, x3, _⟩ := blk4 k3
    exact ⟨⟨y0, y1, y2, y3⟩, ⟨z0, z1, z2, z3⟩, ⟨x0, x1, x2, x3⟩, k1.1, k2.1, k3.1⟩)
  have HBI : Hid (Below W.heap.size W W) := Below.refl _ _
  have HSTW := Lib.hid (readI_below HST.out HBW.out)
  clear hW q1 q2 q3 q4
  obtain ⟨tb, htb⟩ : ∃ tb, tb = decide (iop = 8 ∨ iop = 9) := ⟨_, rfl⟩
  have HTB := Lib.hid htb
  clear htb
  go_cut [12, 13] (fun x o wx => ∃ X, x = .pointer (some ⟨X, 0, none⟩) ∧ o = .bool tb ∧ W.heap.size ≤ X ∧ X < wx.heap.size ∧ Hid (Below W.heap.size W wx) ∧ Hid (if tb = true then DBox wx X D else DBox wx X ⟨[], [], 0⟩))
  case first =>
    obtain ⟨⟨y0, y1, y2, y3⟩, ⟨z0, z1, z2, z3⟩, ⟨x0, x1, x2, x3⟩, s0, s1, s2⟩ := HK.out W HBI.out
    cases tb
    · have hno : ¬ (iop = 8 ∨ iop = 9) := of_decide_eq_false HTB.out.symm
      have HTN := Lib.hid (vturn_not iop ix ia ib sa st.length sc W (fun e => hno (Or.inl e)) (fun e => hno (Or.inr e)))
      clear hno
      go_wp2_with fail
      refine HTN.out.mono ?_
      rintro e w1 ⟨rfl, hb1⟩
      have HB1 := Lib.hid hb1
      clear hb1
      unfold aggD
      go_wp2_with fail
      go_meet
      case rel =>
        refine ⟨w1.heap.size, rfl, rfl, HB1.out.size, by simp, ?_, ?_⟩
        · show Below W.heap.size W _
          first | exact b_alloc HB1.out _ | exact b_grown (b_alloc HB1.out _) (gb_set3 _ _ _ _ _) HB1.out.size
        · show DBox _ _ ⟨[], [], 0⟩
          first | exact ⟨none, 0, none, 0, blk_new _ _ _, readI_nil _, readI_nil _⟩ | exact ⟨none, 0, none, 0, blk_set (blk_set (blk_set (blk_new w1 _ _) 0 _) 1 _) 2 _, readI_nil _, readI_nil _⟩
    · have HTN := Lib.hid (turn_in iop ix ia ib sa sc P f st w W HST.out HBW.out HL.out (of_decide_eq_true HTB.out.symm))
      rw [← HD.out] at HTN
      go_wp2_with fail
      refine HTN.out.mono ?_
      rintro e w1 ⟨ta, tc, ka, kc, rfl, hr1, hr2, hf1, hf2, hb1⟩
      have HB1 := Lib.hid hb1; have HR1 := Lib.hid hr1; have HR2 := Lib.hid hr2
      clear hb1 hr1 hr2 hf1 hf2
      unfold aggD
      go_wp2_with fail
      go_meet
      case rel =>
        refine ⟨w1.heap.size, rfl, rfl, HB1.out.size, by simp, ?_, ?_⟩
        · show Below W.heap.size W _
          first | exact b_alloc HB1.out _ | exact b_grown (b_alloc HB1.out _) (gb_set3 _ _ _ _ _) HB1.out.size
        · show DBox _ _ D
          first | exact ⟨ta, tc, ka, kc, blk_new _ _ _, readI_box HR1.out rfl (gb_refl _ _), readI_box HR2.out rfl (gb_refl _ _)⟩ | exact ⟨ta, tc, ka, kc, blk_set (blk_set (blk_set (blk_new w1 _ _) 0 _) 1 _) 2 _, readI_box HR1.out rfl (gb_set3 _ _ _ _ _), readI_box HR2.out rfl (gb_set3 _ _ _ _ _)⟩
  case rest =>
  obtain ⟨X, rfl, rfl, hX1, hX2, HBX, HDX⟩ := hcut
  obtain ⟨W1, hW1⟩ : ∃ W1, W1 = wc := ⟨_, rfl⟩
  subst hW1
  go_upto_if 30 with fail
  go_cut [34] (fun _ wx => X < wx.heap.size ∧ Hid (Below W.heap.size W wx) ∧ Hid (DBox wx X D))
  case first =>
    cases tb
    · have hno : ¬ (iop = 8 ∨ iop = 9) := of_decide_eq_false HTB.out.symm
      have HDL := Lib.hid (vdeals_any ⟨u, ⟨ga, gn, gc⟩, m0, ⟨fa, fn, fc⟩⟩ P ⟨⟨pa, pn, pc⟩, ⟨la, ln, lc⟩, r, ⟨some ⟨cb, co, none⟩, f.code.length, cc⟩⟩ f ix ia ib w W1 HR.out (b_call HBW.out HBX.out) HS.out HF.out HSF.out ia0 iop o0 o37 (fun e => hno (Or.inl e)) (fun e => hno (Or.inr e)) st)
      rw [← HD.out] at HDL
      clear hno
      have HDZ : Hid (DBox W1 X ⟨[], [], 0⟩) := HDX
      obtain ⟨⟨y0, y1, y2, y3⟩, ⟨z0, z1, z2, z3⟩, ⟨x0, x1, x2, x3⟩, s0, s1, s2⟩ := HK.out W1 HBX.out
      go_wp2_with fail
      refine HDL.out.mono ?_
      rintro e w3 ⟨ta, tc, ka, kc, rfl, hr1, hr2, hf1, hf2, hb3⟩
      have HB3 := Lib.hid hb3; have HR1 := Lib.hid hr1; have HR2 := Lib.hid hr2; have HF1 := Lib.hid hf1; have HF2 := Lib.hid hf2
      have HBK : Hid (∃ a b c d, Blk w3 X [.slice a 0 b, .slice c 0 d, .int .i64 0]) := by
        obtain ⟨a, b, c, d, z, _⟩ := HDZ.out
        exact Lib.hid ⟨a, b, c, d, blk_below z hb3⟩
      clear hb3 hr1 hr2 hf1 hf2 y0 y1 y2 y3 z0 z1 z2 z3 x0 x1 x2 x3 s0 s1 s2
      obtain ⟨e1, e2, e3, e4, BK⟩ := HBK.out
      obtain ⟨c0, c1, c2, cf⟩ := v_blk3 BK
      have hX3 := BK.1
      have HBK2 := Lib.hid BK
      clear BK
      unfold aggD
      go_wp2_with fail
      go_meet
      case rel =>
        have hw0 : w.heap.size ≤ X := Nat.le_trans HBW.out.size hX1
        refine ⟨by simp; omega, ?_, ?_⟩
        · show Below W.heap.size W _
          exact b_grown (b_call HBX.out HB3.out) (gb_set3 _ _ _ _ _) hX1
        · show DBox _ _ D
          exact ⟨ta, tc, ka, kc, blk_set (blk_set (blk_set HBK2.out 0 _) 1 _) 2 _, readI_far HR1.out HF1.out hw0 hX2 (gb_set3 _ _ _ _ _), readI_far HR2.out HF2.out hw0 hX2 (gb_set3 _ _ _ _ _)⟩
    · go_wp2_with fail
      go_meet
      case rel => exact ⟨hX2, HBX, HDX⟩
  case rest =>
  obtain ⟨hX3, HBX2, HDX2⟩ := hcut
  obtain ⟨W2, hW2⟩ : ∃ W2, W2 = wc := ⟨_, rfl⟩
  subst hW2
  obtain ⟨ta, tc, ka, kc, BX, hrt, hrp⟩ := HDX2.out
  have HRT := Lib.hid hrt; have HRP := Lib.hid hrp
  have HB02 := Lib.hid (b_call HBW.out HBX2.out)
  have HST2 := Lib.hid (readI_below HST.out HB02.out)
  clear hrt hrp HDX2 HDX hX2
  by_cases hc : D.c = 0
  case neg =>
    have hcn : (D.c != 0) = true := bne_iff_ne.2 hc
    have EE : Hid (E = bad D.c) := Lib.hid (by rw [HE.out]; unfold effD; rw [if_pos hc])
    obtain ⟨c0, c1, c2, cf⟩ := v_blk3 BX
    clear hc BX
    go_wp2_with fail
    go_region
    all_goals
      go_wp2_with fail
      go_ret3
      show RetD w _ _ _
      rw [EE.out]
      exact ⟨none, 0, none, 0, rfl, readI_nil _, readI_nil _, by first | exact HB02.out | exact b_drew HB02.out | exact b_drewN HB02.out _⟩
  case pos =>
    rw [hc] at BX
    have HC0 := Lib.hid hc
    clear hc
    have HKX : Hid (∀ w', Below W2.heap.size W2 w' → (w'.cell? ⟨X, 0, none⟩ = some (.slice ta D.t.length tc) ∧ w'.cell? ⟨X, 1, none⟩ = some (.slice ka D.p.length kc) ∧ w'.cell? ⟨X, 2, none⟩ = some (.int .i64 0)) ∧ w'.cell? ⟨w.heap.size + 2, 0, none⟩ = some (.int .i64 iop)) := Lib.hid (fun w' hb => by
      obtain ⟨c0, c1, c2, _⟩ := v_blk3 (blk_below BX hb)
      obtain ⟨⟨y0, y1, y2, y3⟩, ⟨z0, z1, z2, z3⟩, ⟨x0, x1, x2, x3⟩, s0, s1, s2⟩ := HK.out w' (b_call HBX2.out hb)
      exact ⟨⟨c0, c1, c2⟩, x0⟩)
    have HXZ : Hid (∀ w', Below W2.heap.size W2 w' → X < w'.heap.size) := Lib.hid (fun w' hb => (blk_below BX hb).1)
    obtain ⟨c0, c1, c2, cf⟩ := v_blk3 BX
    clear BX
    by_cases hlt : st.length < D.t.length
    · have EE : Hid (E = bad 2) := Lib.hid (by rw [HE.out]; unfold effD; rw [if_neg (by simp [HC0.out]), if_pos (Or.inl (by omega))])
      have l1 : (st.length : Int) < D.t.length := by omega
      have l2 : (D.t.length : Int) ≤ 10 := by omega
      obtain ⟨mm, hmm⟩ : ∃ mm : Int, mm = (st.length : Int) - D.t.length := ⟨_, rfl⟩
      have HMM := Lib.hid hmm
      have hneg : mm < 0 := by omega
      clear hlt hmm
      go_upto_region 7 with fail
      go_cut [14] (fun v wx => v = .int .i64 mm ∧ Below W2.heap.size W2 wx)
      case first =>
        clear hneg
        go_wp2_with fail
        go_meet
        case rel => exact ⟨by first | rfl | (show Value.int .i64 _ = _; rw [HMM.out]), Below.refl _ _⟩
      case rest =>
        obtain ⟨rfl, hbc⟩ := hcut
        have HBC := Lib.hid hbc
        clear l1 l2 hbc c0 c1 c2 cf
        go_upto_region 8 with fail
        refine wp_region_held_drew (S := fun w' => (w'.cell? ⟨X, 0, none⟩ = some (.slice ta D.t.length tc) ∧ w'.cell? ⟨X, 1, none⟩ = some (.slice ka D.p.length kc) ∧ w'.cell? ⟨X, 2, none⟩ = some (.int .i64 0)) ∧ w'.cell? ⟨w.heap.size + 2, 0, none⟩ = some (.int .i64 iop)) (by kernel_rfl) (HKX.out _ (b_drew HBC.out)) (fun hHeld => ?_)
        refine atI 0 ?_
        iterate 3 (refine takeN (v := ?_) rfl (by rfl) ?_ hHeld ?_; rotate_left; (focus (intro w hSw; (try dsimp only at hSw); go_simp; try (with_reducible rfl))); (try simp only [Act.put, Nat.reduceAdd, List.getElem_toArray, List.getElem_cons_succ, List.getElem_cons_zero, List.setIfInBounds_toArray, List.set_cons_zero, List.set_cons_succ]))
        refine atIo ?_
        (refine wpAnyH_take (i := 3) (v := _) rfl (by kernel_rfl) (by kernel_rfl) (by kernel_rfl) (fun _ _ _ h => h) (Or.inr ⟨by rfl, rfl⟩) hHeld ?_; (try simp only [Act.put, List.getElem_toArray, List.getElem_cons_succ, List.getElem_cons_zero, List.setIfInBounds_toArray, List.set_cons_zero, List.set_cons_succ]))
        (refine wpAnyH_take (i := 4) (v := _) rfl (by kernel_rfl) (by kernel_rfl) (by kernel_rfl) (fun _ _ _ h => h) (Or.inr ⟨by rfl, rfl⟩) hHeld ?_; (try simp only [Act.put, List.getElem_toArray, List.getElem_cons_succ, List.getElem_cons_zero, List.setIfInBounds_toArray, List.set_cons_zero, List.set_cons_succ]))
        (refine wpAnyH_take (i := 5) (v := _) rfl (by kernel_rfl) (by kernel_rfl) (by kernel_rfl) (fun _ _ _ h => h) (Or.inr ⟨by rfl, rfl⟩) hHeld ?_; (try simp only [Act.put, List.getElem_toArray, List.getElem_cons_succ, List.getElem_cons_zero, List.setIfInBounds_toArray, List.set_cons_zero, List.set_cons_succ]))
        (refine wpAnyH_take (i := 6) (v := _) rfl (by kernel_rfl) (by kernel_rfl) (by kernel_rfl) (fun _ _ _ h => h) (Or.inr ⟨by rfl, rfl⟩) hHeld ?_; (try simp only [Act.put, List.getElem_toArray, List.getElem_cons_succ, List.getElem_cons_zero, List.setIfInBounds_toArray, List.set_cons_zero, List.set_cons_succ]))
        (refine wpAnyH_take (i := 7) (v := _) rfl (by kernel_rfl) (by kernel_rfl) (by kernel_rfl) (fun _ _ _ h => h) (Or.inr ⟨by rfl, rfl⟩) hHeld ?_; (try simp only [Act.put, List.getElem_toArray, List.getElem_cons_succ, List.getElem_cons_zero, List.setIfInBounds_toArray, List.set_cons_zero, List.set_cons_succ]))
        (refine wpAnyH_take (i := 8) (v := _) rfl (by kernel_rfl) (by kernel_rfl) (by kernel_rfl) (fun _ _ _ h => h) (Or.inr ⟨by rfl, rfl⟩) hHeld ?_; (try simp only [Act.put, List.getElem_toArray, List.getElem_cons_succ, List.getElem_cons_zero, List.setIfInBounds_toArray, List.set_cons_zero, List.set_cons_succ]))
        (refine wpAnyH_take (i := 9) (v := _) rfl (by kernel_rfl) (by kernel_rfl) (by kernel_rfl) (fun _ _ _ h => h) (Or.inr ⟨by rfl, rfl⟩) hHeld ?_; (try simp only [Act.put, List.getElem_toArray, List.getElem_cons_succ, List.getElem_cons_zero, List.setIfInBounds_toArray, List.set_cons_zero, List.set_cons_succ]))
        refine atI 10 ?_
        iterate 2 (refine takeN (v := ?_) rfl (by rfl) ?_ hHeld ?_; rotate_left; (focus (intro w hSw; (try dsimp only at hSw); go_simp; try (with_reducible rfl))); (try simp only [Act.put, Nat.reduceAdd, List.getElem_toArray, List.getElem_cons_succ, List.getElem_cons_zero, List.setIfInBounds_toArray, List.set_cons_zero, List.set_cons_succ]))
        refine atIo ?_
        (refine wpAnyH_take (i := 12) (v := _) rfl (by kernel_rfl) (by kernel_rfl) (by kernel_rfl) (fun _ _ _ h => h) (Or.inr ⟨by rfl, rfl⟩) hHeld ?_; (try simp only [Act.put, List.getElem_toArray, List.getElem_cons_succ, List.getElem_cons_zero, List.setIfInBounds_toArray, List.set_cons_zero, List.set_cons_succ]))
        (refine wpAnyH_take (i := 13) (v := _) rfl (by kernel_rfl) (by kernel_rfl) (by kernel_rfl) (fun _ _ _ h => h) (Or.inr ⟨by rfl, rfl⟩) hHeld ?_; (try simp only [Act.put, List.getElem_toArray, List.getElem_cons_succ, List.getElem_cons_zero, List.setIfInBounds_toArray, List.set_cons_zero, List.set_cons_succ]))
        (refine wpAnyH_take (i := 14) (v := _) rfl (by kernel_rfl) (by kernel_rfl) (by kernel_rfl) (fun _ _ _ h => h) (Or.inr ⟨by rfl, rfl⟩) hHeld ?_; (try simp only [Act.put, List.getElem_toArray, List.getElem_cons_succ, List.getElem_cons_zero, List.setIfInBounds_toArray, List.set_cons_zero, List.set_cons_succ]))
        (refine wpAnyH_take (i := 15) (v := _) rfl (by kernel_rfl) (by kernel_rfl) (by kernel_rfl) (fun _ _ _ h => h) (Or.inr ⟨by rfl, rfl⟩) hHeld ?_; (try simp only [Act.put, List.getElem_toArray, List.getElem_cons_succ, List.getElem_cons_zero, List.setIfInBounds_toArray, List.set_cons_zero, List.set_cons_succ]))
        (refine wpAnyH_take (i := 16) (v := _) rfl (by kernel_rfl) (by kernel_rfl) (by kernel_rfl) (fun _ _ _ h => h) (Or.inr ⟨by rfl, rfl⟩) hHeld ?_; (try simp only [Act.put, List.getElem_toArray, List.getElem_cons_succ, List.getElem_cons_zero, List.setIfInBounds_toArray, List.set_cons_zero, List.set_cons_succ]))
        (refine wpAnyH_take (i := 17) (v := _) rfl (by kernel_rfl) (by kernel_rfl) (by kernel_rfl) (fun _ _ _ h => h) (Or.inr ⟨by rfl, rfl⟩) hHeld ?_; (try simp only [Act.put, List.getElem_toArray, List.getElem_cons_succ, List.getElem_cons_zero, List.setIfInBounds_toArray, List.set_cons_zero, List.set_cons_succ]))
        (refine wpAnyH_take (i := 18) (v := _) rfl (by kernel_rfl) (by kernel_rfl) (by kernel_rfl) (fun _ _ _ h => h) (Or.inr ⟨by rfl, rfl⟩) hHeld ?_; (try simp only [Act.put, List.getElem_toArray, List.getElem_cons_succ, List.getElem_cons_zero, List.setIfInBounds_toArray, List.set_cons_zero, List.set_cons_succ]))
        (refine wpAnyH_take (i := 19) (v := ?_) rfl (by kernel_rfl) (by kernel_rfl) (by kernel_rfl) (fun _ _ _ h => h) (Or.inl ⟨by rfl, ?_⟩) hHeld ?_; rotate_left; (focus (intro w hSw; (try dsimp only at hSw); go_simp; try (with_reducible rfl))); (try simp only [Act.put, List.getElem_toArray, List.getElem_cons_succ, List.getElem_cons_zero, List.setIfInBounds_toArray, List.set_cons_zero, List.set_cons_succ]))
        refine wpAnyH_done (by kernel_rfl) ?_ _
        go_wp2_with fail
        go_ret3
        show RetD w _ _ _
        rw [EE.out]
        exact ⟨none, 0, none, 0, rfl, readI_nil _, readI_nil _, b_call HB02.out (b_drew HBC.out)⟩
    · obtain ⟨m, hm⟩ : ∃ m, st.length - D.t.length = m := ⟨_, rfl⟩
      have hmi : (st.length : Int) - D.t.length = m := by omega
      have hmn : m ≤ st.length := by omega
      have hm100 : (m : Int) ≤ 100 := by omega
      have hm0 : (0 : Int) ≤ m := by omega
      have HMI := Lib.hid (And.intro hm hmi)
      have HMN := Lib.hid hmn
      have HEE : Hid (E = if st.drop m ≠ D.t ∨ (iop = 15 ∧ 0 < m) then bad 2 else if 16 < m + D.p.length then bad 3 else if (waysI ⟨iop, ix, ia, ib⟩ k).any (outB f) = true then bad 1 else if (waysI ⟨iop, ix, ia, ib⟩ k).any (backB f k) = true then bad 6 else ⟨st.take m ++ D.p, waysI ⟨iop, ix, ia, ib⟩ k, 0⟩) := Lib.hid (by
        rw [HE.out]; unfold effD
        rw [if_neg (by simp [HC0.out]), hm]
        have e1 : ((st.length : Int) < D.t.length ∨ st.drop m ≠ D.t ∨ (iop = 15 ∧ D.t.length < st.length)) ↔ (st.drop m ≠ D.t ∨ (iop = 15 ∧ 0 < m)) := by
          constructor
          · rintro (q | q | q)
            · omega
            · exact Or.inl q
            · exact Or.inr ⟨q.1, by omega⟩
          · rintro (q | q)
            · exact Or.inr (Or.inl q)
            · exact Or.inr (Or.inr ⟨q.1, by omega⟩)
        simp only [e1]
        rfl)
      have l3 : (D.t.length : Int) ≤ st.length := by omega
      have l4 : (st.length : Int) ≤ 100 := by omega
      have hmsc : (m : Int) ≤ sc := by omega
      have hmst : (m : Int) ≤ st.length := by omega
      clear hlt hm
      go_upto_region 7 with fail
      go_cut [14] (fun v wx => v = .int .i64 m ∧ Below W2.heap.size W2 wx)
      case first =>
        clear hm0 hm100 hmsc hmst
        go_wp2_with fail
        go_meet
        case rel => exact ⟨by first | rfl | (show Value.int .i64 _ = _; rw [HMI.out.2]) | (show Value.int .i64 _ = Value.int .i64 _; congr 1), Below.refl _ _⟩
      case rest =>
        clear hmi l3
        obtain ⟨rfl, hbc⟩ := hcut
        have HBC := Lib.hid hbc
        clear hbc c0 c1 c2 cf
        obtain ⟨q, hq⟩ : ∃ q, q = decide (st.drop m = D.t) := ⟨_, rfl⟩
        have HQ := Lib.hid hq
        have HSM : Hid (∀ w' v, Below W2.heap.size W2 w' → ReadI w' v (st.drop m) → Calls Try.prog 90 #[v, .slice ta D.t.length tc] w' fun e w'' => e = .returned (.bool q) ∧ Below w'.heap.size w' w'') := Lib.hid (fun w' v hb hv => by
          have z := eqI_any v (.slice ta D.t.length tc) (st.drop m) D.t w' hv (readI_below HRT.out hb) (by rw [List.length_drop]; have := HL.out; omega) (by omega)
          rw [← hq] at z
          exact z)
        clear hq
        obtain ⟨q2, hq2⟩ : ∃ q2, q2 = (!q || (decide (iop = 15) && decide (0 < m))) := ⟨_, rfl⟩
        have HQ2 := Lib.hid hq2
        clear hq2
        go_upto_region 8 with fail
        go_cut [65] (fun v wx => v = .bool q2 ∧ Below W2.heap.size W2 wx)
        case first =>
          have HBD := Lib.hid (b_drew HBC.out)
          rcases sl_cases HST2.out HMN.out with ⟨e1, e2, e3, e4, e5⟩ | ⟨aa, e1, e2, e4, e5, e6⟩ | ⟨bb, oo, e1, e2, e3, e4, e5, e6⟩ | ⟨bb, oo, e1, e2, e3, e4, e5, e6⟩
          case inl =>
            subst e1
            have E2 := Lib.hid e2
            have E3 := Lib.hid e3
            have E9 : Hid (st.drop m = []) := Lib.hid (by rw [e5]; exact List.drop_nil)
            clear e5
            clear e2 e3 e4
            cases q
            · have F1 : Hid (q2 = true) := Lib.hid (by rw [HQ2.out]; rfl)
              refine wp_region_held_drew (S := fun w' => (w'.cell? ⟨X, 0, none⟩ = some (.slice ta D.t.length tc) ∧ w'.cell? ⟨X, 1, none⟩ = some (.slice ka D.p.length kc) ∧ w'.cell? ⟨X, 2, none⟩ = some (.int .i64 0)) ∧ w'.cell? ⟨w.heap.size + 2, 0, none⟩ = some (.int .i64 iop)) (by kernel_rfl) (HKX.out _ HBD.out) (fun hHeld => ?_)
              refine atI 0 ?_
              iterate 8 (refine takeN (v := ?_) rfl (by rfl) ?_ hHeld ?_; rotate_left; (focus (intro w hSw; (try dsimp only at hSw); go_simp; try (with_reducible rfl))); (try simp only [Act.put, Nat.reduceAdd, List.getElem_toArray, List.getElem_cons_succ, List.getElem_cons_zero, List.setIfInBounds_toArray, List.set_cons_zero, List.set_cons_succ]))
              refine atIo ?_
              refine wpAnyH_ready (rs := [8]) (by kernel_rfl) (by simp) (AllReadyH.cons rfl (fun K hK => ?_) AllReadyH.nil)
              go_simp
              refine (HSM.out _ _ HBD.out (by rw [E9.out, show st.length - m = 0 by have := E2.out; omega, show sc - m = 0 by have := E3.out; omega]; exact readI_nil _)).mono ?_
              rintro e w2 ⟨rfl, hb2⟩
              refine hK.out _ _ (HKX.out _ (b_call HBD.out hb2)) (fun hHeld => ?_)
              clear hK K
              (try simp only [Act.put, List.getElem_toArray, List.getElem_cons_succ, List.getElem_cons_zero, List.setIfInBounds_toArray, List.set_cons_zero, List.set_cons_succ])
              refine atI 9 ?_
              iterate 3 (refine takeN (v := ?_) rfl (by rfl) ?_ hHeld ?_; rotate_left; (focus (intro w hSw; (try dsimp only at hSw); go_simp; try (with_reducible rfl))); (try simp only [Act.put, Nat.reduceAdd, List.getElem_toArray, List.getElem_cons_succ, List.getElem_cons_zero, List.setIfInBounds_toArray, List.set_cons_zero, List.set_cons_succ]))
              refine atIo ?_
              (refine wpAnyH_take (i := 12) (v := _) rfl (by kernel_rfl) (by kernel_rfl) (by kernel_rfl) (fun _ _ _ h => h) (Or.inr ⟨by rfl, rfl⟩) hHeld ?_; (try simp only [Act.put, List.getElem_toArray, List.getElem_cons_succ, List.getElem_cons_zero, List.setIfInBounds_toArray, List.set_cons_zero, List.set_cons_succ]))
              (refine wpAnyH_take (i := 13) (v := _) rfl (by kernel_rfl) (by kernel_rfl) (by kernel_rfl) (fun _ _ _ h => h) (Or.inr ⟨by rfl, rfl⟩) hHeld ?_; (try simp only [Act.put, List.getElem_toArray, List.getElem_cons_succ, List.getElem_cons_zero, List.setIfInBounds_toArray, List.set_cons_zero, List.set_cons_succ]))
              (refine wpAnyH_take (i := 14) (v := _) rfl (by kernel_rfl) (by kernel_rfl) (by kernel_rfl) (fun _ _ _ h => h) (Or.inr ⟨by rfl, rfl⟩) hHeld ?_; (try simp only [Act.put, List.getElem_toArray, List.getElem_cons_succ, List.getElem_cons_zero, List.setIfInBounds_toArray, List.set_cons_zero, List.set_cons_succ]))
              (refine wpAnyH_take (i := 15) (v := _) rfl (by kernel_rfl) (by kernel_rfl) (by kernel_rfl) (fun _ _ _ h => h) (Or.inr ⟨by rfl, rfl⟩) hHeld ?_; (try simp only [Act.put, List.getElem_toArray, List.getElem_cons_succ, List.getElem_cons_zero, List.setIfInBounds_toArray, List.set_cons_zero, List.set_cons_succ]))
              (refine wpAnyH_take (i := 16) (v := _) rfl (by kernel_rfl) (by kernel_rfl) (by kernel_rfl) (fun _ _ _ h => h) (Or.inr ⟨by rfl, rfl⟩) hHeld ?_; (try simp only [Act.put, List.getElem_toArray, List.getElem_cons_succ, List.getElem_cons_zero, List.setIfInBounds_toArray, List.set_cons_zero, List.set_cons_succ]))
              (refine wpAnyH_take (i := 17) (v := _) rfl (by kernel_rfl) (by kernel_rfl) (by kernel_rfl) (fun _ _ _ h => h) (Or.inr ⟨by rfl, rfl⟩) hHeld ?_; (try simp only [Act.put, List.getElem_toArray, List.getElem_cons_succ, List.getElem_cons_zero, List.setIfInBounds_toArray, List.set_cons_zero, List.set_cons_succ]))
              (refine wpAnyH_take (i := 18) (v := _) rfl (by kernel_rfl) (by kernel_rfl) (by kernel_rfl) (fun _ _ _ h => h) (Or.inr ⟨by rfl, rfl⟩) hHeld ?_; (try simp only [Act.put, List.getElem_toArray, List.getElem_cons_succ, List.getElem_cons_zero, List.setIfInBounds_toArray, List.set_cons_zero, List.set_cons_succ]))
              (refine wpAnyH_take (i := 19) (v := ?_) rfl (by kernel_rfl) (by kernel_rfl) (by kernel_rfl) (fun _ _ _ h => h) (Or.inl ⟨by rfl, ?_⟩) hHeld ?_; rotate_left; (focus (intro w hSw; (try dsimp only at hSw); go_simp; try (with_reducible rfl))); (try simp only [Act.put, List.getElem_toArray, List.getElem_cons_succ, List.getElem_cons_zero, List.setIfInBounds_toArray, List.set_cons_zero, List.set_cons_succ]))
              refine wpAnyH_done (by kernel_rfl) ?_ _
              go_wp2_with fail
              go_meet
              case rel => exact ⟨by rw [F1.out]; first | done | rfl | (congr 1; exact decide_eq_false (by omega)) | (congr 1; exact decide_eq_true (by omega)), b_call HBD.out hb2⟩
            · by_cases h15 : iop = 15
              · have h15b : (iop == 15) = true := beq_iff_eq.2 h15
                have H15 := Lib.hid h15
                clear h15
                by_cases hm1 : 0 < m
                · have F1 : Hid (q2 = true) := Lib.hid (by rw [HQ2.out]; simp [hm1, H15.out])
                  have hm2 : (0 : Int) < m := by omega
                  refine wp_region_held_drew (S := fun w' => (w'.cell? ⟨X, 0, none⟩ = some (.slice ta D.t.length tc) ∧ w'.cell? ⟨X, 1, none⟩ = some (.slice ka D.p.length kc) ∧ w'.cell? ⟨X, 2, none⟩ = some (.int .i64 0)) ∧ w'.cell? ⟨w.heap.size + 2, 0, none⟩ = some (.int .i64 iop)) (by kernel_rfl) (HKX.out _ HBD.out) (fun hHeld => ?_)
                  refine atI 0 ?_
                  iterate 8 (refine takeN (v := ?_) rfl (by rfl) ?_ hHeld ?_; rotate_left; (focus (intro w hSw; (try dsimp only at hSw); go_simp; try (with_reducible rfl))); (try simp only [Act.put, Nat.reduceAdd, List.getElem_toArray, List.getElem_cons_succ, List.getElem_cons_zero, List.setIfInBounds_toArray, List.set_cons_zero, List.set_cons_succ]))
                  refine atIo ?_
                  refine wpAnyH_ready (rs := [8]) (by kernel_rfl) (by simp) (AllReadyH.cons rfl (fun K hK => ?_) AllReadyH.nil)
                  go_simp
                  refine (HSM.out _ _ HBD.out (by rw [E9.out, show st.length - m = 0 by have := E2.out; omega, show sc - m = 0 by have := E3.out; omega]; exact readI_nil _)).mono ?_
                  rintro e w2 ⟨rfl, hb2⟩
                  refine hK.out _ _ (HKX.out _ (b_call HBD.out hb2)) (fun hHeld => ?_)
                  clear hK K
                  (try simp only [Act.put, List.getElem_toArray, List.getElem_cons_succ, List.getElem_cons_zero, List.setIfInBounds_toArray, List.set_cons_zero, List.set_cons_succ])
                  refine atI 9 ?_
                  iterate 3 (refine takeN (v := ?_) rfl (by rfl) ?_ hHeld ?_; rotate_left; (focus (intro w hSw; (try dsimp only at hSw); go_simp; try (with_reducible rfl))); (try simp only [Act.put, Nat.reduceAdd, List.getElem_toArray, List.getElem_cons_succ, List.getElem_cons_zero, List.setIfInBounds_toArray, List.set_cons_zero, List.set_cons_succ]))
                  refine atIo ?_
                  refine atI 12 ?_
                  iterate 8 (refine takeN (v := ?_) rfl (by rfl) ?_ hHeld ?_; rotate_left; (focus (intro w hSw; (try dsimp only at hSw); go_simp; try (with_reducible rfl))); (try simp only [Act.put, Nat.reduceAdd, List.getElem_toArray, List.getElem_cons_succ, List.getElem_cons_zero, List.setIfInBounds_toArray, List.set_cons_zero, List.set_cons_succ]))
                  refine atIo ?_
                  refine wpAnyH_done (by kernel_rfl) ?_ _
                  go_wp2_with fail
                  go_meet
                  case rel => exact ⟨by rw [F1.out]; first | done | rfl | (congr 1; exact decide_eq_false (by omega)) | (congr 1; exact decide_eq_true (by omega)), b_call HBD.out hb2⟩
                · have F1 : Hid (q2 = false) := Lib.hid (by rw [HQ2.out]; simp [hm1])
                  have hm2 : ¬ ((0 : Int) < m) := by omega
                  refine wp_region_held_drew (S := fun w' => (w'.cell? ⟨X, 0, none⟩ = some (.slice ta D.t.length tc) ∧ w'.cell? ⟨X, 1, none⟩ = some (.slice ka D.p.length kc) ∧ w'.cell? ⟨X, 2, none⟩ = some (.int .i64 0)) ∧ w'.cell? ⟨w.heap.size + 2, 0, none⟩ = some (.int .i64 iop)) (by kernel_rfl) (HKX.out _ HBD.out) (fun hHeld => ?_)
                  refine atI 0 ?_
                  iterate 8 (refine takeN (v := ?_) rfl (by rfl) ?_ hHeld ?_; rotate_left; (focus (intro w hSw; (try dsimp only at hSw); go_simp; try (with_reducible rfl))); (try simp only [Act.put, Nat.reduceAdd, List.getElem_toArray, List.getElem_cons_succ, List.getElem_cons_zero, List.setIfInBounds_toArray, List.set_cons_zero, List.set_cons_succ]))
                  refine atIo ?_
                  refine wpAnyH_ready (rs := [8]) (by kernel_rfl) (by simp) (AllReadyH.cons rfl (fun K hK => ?_) AllReadyH.nil)
                  go_simp
                  refine (HSM.out _ _ HBD.out (by rw [E9.out, show st.length - m = 0 by have := E2.out; omega, show sc - m = 0 by have := E3.out; omega]; exact readI_nil _)).mono ?_
                  rintro e w2 ⟨rfl, hb2⟩
                  refine hK.out _ _ (HKX.out _ (b_call HBD.out hb2)) (fun hHeld => ?_)
                  clear hK K
                  (try simp only [Act.put, List.getElem_toArray, List.getElem_cons_succ, List.getElem_cons_zero, List.setIfInBounds_toArray, List.set_cons_zero, List.set_cons_succ])
                  refine atI 9 ?_
                  iterate 3 (refine takeN (v := ?_) rfl (by rfl) ?_ hHeld ?_; rotate_left; (focus (intro w hSw; (try dsimp only at hSw); go_simp; try (with_reducible rfl))); (try simp only [Act.put, Nat.reduceAdd, List.getElem_toArray, List.getElem_cons_succ, List.getElem_cons_zero, List.setIfInBounds_toArray, List.set_cons_zero, List.set_cons_succ]))
                  refine atIo ?_
                  refine atI 12 ?_
                  iterate 8 (refine takeN (v := ?_) rfl (by rfl) ?_ hHeld ?_; rotate_left; (focus (intro w hSw; (try dsimp only at hSw); go_simp; try (with_reducible rfl))); (try simp only [Act.put, Nat.reduceAdd, List.getElem_toArray, List.getElem_cons_succ, List.getElem_cons_zero, List.setIfInBounds_toArray, List.set_cons_zero, List.set_cons_succ]))
                  refine atIo ?_
                  refine wpAnyH_done (by kernel_rfl) ?_ _
                  go_wp2_with fail
                  go_meet
                  case rel => exact ⟨by rw [F1.out]; first | done | rfl | (congr 1; exact decide_eq_false (by omega)) | (congr 1; exact decide_eq_true (by omega)), b_call HBD.out hb2⟩
              · have F1 : Hid (q2 = false) := Lib.hid (by rw [HQ2.out]; simp [h15])
                have n15 : (iop == 15) = false := beq_false_of_ne h15
                clear h15
                refine wp_region_held_drew (S := fun w' => (w'.cell? ⟨X, 0, none⟩ = some (.slice ta D.t.length tc) ∧ w'.cell? ⟨X, 1, none⟩ = some (.slice ka D.p.length kc) ∧ w'.cell? ⟨X, 2, none⟩ = some (.int .i64 0)) ∧ w'.cell? ⟨w.heap.size + 2, 0, none⟩ = some (.int .i64 iop)) (by kernel_rfl) (HKX.out _ HBD.out) (fun hHeld => ?_)
                refine atI 0 ?_
                iterate 8 (refine takeN (v := ?_) rfl (by rfl) ?_ hHeld ?_; rotate_left; (focus (intro w hSw; (try dsimp only at hSw); go_simp; try (with_reducible rfl))); (try simp only [Act.put, Nat.reduceAdd, List.getElem_toArray, List.getElem_cons_succ, List.getElem_cons_zero, List.setIfInBounds_toArray, List.set_cons_zero, List.set_cons_succ]))
                refine atIo ?_
                refine wpAnyH_ready (rs := [8]) (by kernel_rfl) (by simp) (AllReadyH.cons rfl (fun K hK => ?_) AllReadyH.nil)
                go_simp
                refine (HSM.out _ _ HBD.out (by rw [E9.out, show st.length - m = 0 by have := E2.out; omega, show sc - m = 0 by have := E3.out; omega]; exact readI_nil _)).mono ?_
                rintro e w2 ⟨rfl, hb2⟩
                refine hK.out _ _ (HKX.out _ (b_call HBD.out hb2)) (fun hHeld => ?_)
                clear hK K
                (try simp only [Act.put, List.getElem_toArray, List.getElem_cons_succ, List.getElem_cons_zero, List.setIfInBounds_toArray, List.set_cons_zero, List.set_cons_succ])
                refine atI 9 ?_
                iterate 3 (refine takeN (v := ?_) rfl (by rfl) ?_ hHeld ?_; rotate_left; (focus (intro w hSw; (try dsimp only at hSw); go_simp; try (with_reducible rfl))); (try simp only [Act.put, Nat.reduceAdd, List.getElem_toArray, List.getElem_cons_succ, List.getElem_cons_zero, List.setIfInBounds_toArray, List.set_cons_zero, List.set_cons_succ]))
                refine atIo ?_
                refine atI 12 ?_
                iterate 4 (refine takeN (v := ?_) rfl (by rfl) ?_ hHeld ?_; rotate_left; (focus (intro w hSw; (try dsimp only at hSw); go_simp; try (with_reducible rfl))); (try simp only [Act.put, Nat.reduceAdd, List.getElem_toArray, List.getElem_cons_succ, List.getElem_cons_zero, List.setIfInBounds_toArray, List.set_cons_zero, List.set_cons_succ]))
                refine atIo ?_
                (refine wpAnyH_take (i := 16) (v := _) rfl (by kernel_rfl) (by kernel_rfl) (by kernel_rfl) (fun _ _ _ h => h) (Or.inr ⟨by rfl, rfl⟩) hHeld ?_; (try simp only [Act.put, List.getElem_toArray, List.getElem_cons_succ, List.getElem_cons_zero, List.setIfInBounds_toArray, List.set_cons_zero, List.set_cons_succ]))
                (refine wpAnyH_take (i := 17) (v := _) rfl (by kernel_rfl) (by kernel_rfl) (by kernel_rfl) (fun _ _ _ h => h) (Or.inr ⟨by rfl, rfl⟩) hHeld ?_; (try simp only [Act.put, List.getElem_toArray, List.getElem_cons_succ, List.getElem_cons_zero, List.setIfInBounds_toArray, List.set_cons_zero, List.set_cons_succ]))
                refine atI 18 ?_
                iterate 2 (refine takeN (v := ?_) rfl (by rfl) ?_ hHeld ?_; rotate_left; (focus (intro w hSw; (try dsimp only at hSw); go_simp; try (with_reducible rfl))); (try simp only [Act.put, Nat.reduceAdd, List.getElem_toArray, List.getElem_cons_succ, List.getElem_cons_zero, List.setIfInBounds_toArray, List.set_cons_zero, List.set_cons_succ]))
                refine atIo ?_
                refine wpAnyH_done (by kernel_rfl) ?_ _
                go_wp2_with fail
                go_meet
                case rel => exact ⟨by rw [F1.out]; first | done | rfl | (congr 1; exact decide_eq_false (by omega)) | (congr 1; exact decide_eq_true (by omega)), b_call HBD.out hb2⟩
          case inr.inl =>
            subst e1
            obtain ⟨ab, ao, az⟩ := aa
            have E2 := Lib.hid e2
            have E6 := Lib.hid e6
            have E9 : Hid (st.drop m = []) := Lib.hid (by rw [e5]; exact List.drop_nil)
            clear e5
            clear e2 e4
            have hsm2 := cap_le e6
            by_cases hzz : sc = m
            · have hz : (sc = m) = True := by rw [hzz]; simp
              clear hzz
              cases q
              · have F1 : Hid (q2 = true) := Lib.hid (by rw [HQ2.out]; rfl)
                refine wp_region_held_drew (S := fun w' => (w'.cell? ⟨X, 0, none⟩ = some (.slice ta D.t.length tc) ∧ w'.cell? ⟨X, 1, none⟩ = some (.slice ka D.p.length kc) ∧ w'.cell? ⟨X, 2, none⟩ = some (.int .i64 0)) ∧ w'.cell? ⟨w.heap.size + 2, 0, none⟩ = some (.int .i64 iop)) (by kernel_rfl) (HKX.out _ HBD.out) (fun hHeld => ?_)
                refine atI 0 ?_
                iterate 8 (refine takeN (v := ?_) rfl (by rfl) ?_ hHeld ?_; rotate_left; (focus (intro w hSw; (try dsimp only at hSw); go_simp; try (with_reducible rfl))); (try simp only [Act.put, Nat.reduceAdd, List.getElem_toArray, List.getElem_cons_succ, List.getElem_cons_zero, List.setIfInBounds_toArray, List.set_cons_zero, List.set_cons_succ]))
                refine atIo ?_
                refine wpAnyH_ready (rs := [8]) (by kernel_rfl) (by simp) (AllReadyH.cons rfl (fun K hK => ?_) AllReadyH.nil)
                go_simp
                refine (HSM.out _ _ HBD.out (by rw [E9.out, show st.length - m = 0 by have := E2.out; omega]; exact readI_empty _ _ _ (by have := E6.out; omega))).mono ?_
                rintro e w2 ⟨rfl, hb2⟩
                refine hK.out _ _ (HKX.out _ (b_call HBD.out hb2)) (fun hHeld => ?_)
                clear hK K
                (try simp only [Act.put, List.getElem_toArray, List.getElem_cons_succ, List.getElem_cons_zero, List.setIfInBounds_toArray, List.set_cons_zero, List.set_cons_succ])
                refine atI 9 ?_
                iterate 3 (refine takeN (v := ?_) rfl (by rfl) ?_ hHeld ?_; rotate_left; (focus (intro w hSw; (try dsimp only at hSw); go_simp; try (with_reducible rfl))); (try simp only [Act.put, Nat.reduceAdd, List.getElem_toArray, List.getElem_cons_succ, List.getElem_cons_zero, List.setIfInBounds_toArray, List.set_cons_zero, List.set_cons_succ]))
                refine atIo ?_
                (refine wpAnyH_take (i := 12) (v := _) rfl (by kernel_rfl) (by kernel_rfl) (by kernel_rfl) (fun _ _ _ h => h) (Or.inr ⟨by rfl, rfl⟩) hHeld ?_; (try simp only [Act.put, List.getElem_toArray, List.getElem_cons_succ, List.getElem_cons_zero, List.setIfInBounds_toArray, List.set_cons_zero, List.set_cons_succ]))
                (refine wpAnyH_take (i := 13) (v := _) rfl (by kernel_rfl) (by kernel_rfl) (by kernel_rfl) (fun _ _ _ h => h) (Or.inr ⟨by rfl, rfl⟩) hHeld ?_; (try simp only [Act.put, List.getElem_toArray, List.getElem_cons_succ, List.getElem_cons_zero, List.setIfInBounds_toArray, List.set_cons_zero, List.set_cons_succ]))
                (refine wpAnyH_take (i := 14) (v := _) rfl (by kernel_rfl) (by kernel_rfl) (by kernel_rfl) (fun _ _ _ h => h) (Or.inr ⟨by rfl, rfl⟩) hHeld ?_; (try simp only [Act.put, List.getElem_toArray, List.getElem_cons_succ, List.getElem_cons_zero, List.setIfInBounds_toArray, List.set_cons_zero, List.set_cons_succ]))
                (refine wpAnyH_take (i := 15) (v := _) rfl (by kernel_rfl) (by kernel_rfl) (by kernel_rfl) (fun _ _ _ h => h) (Or.inr ⟨by rfl, rfl⟩) hHeld ?_; (try simp only [Act.put, List.getElem_toArray, List.getElem_cons_succ, List.getElem_cons_zero, List.setIfInBounds_toArray, List.set_cons_zero, List.set_cons_succ]))
                (refine wpAnyH_take (i := 16) (v := _) rfl (by kernel_rfl) (by kernel_rfl) (by kernel_rfl) (fun _ _ _ h => h) (Or.inr ⟨by rfl, rfl⟩) hHeld ?_; (try simp only [Act.put, List.getElem_toArray, List.getElem_cons_succ, List.getElem_cons_zero, List.setIfInBounds_toArray, List.set_cons_zero, List.set_cons_succ]))
                (refine wpAnyH_take (i := 17) (v := _) rfl (by kernel_rfl) (by kernel_rfl) (by kernel_rfl) (fun _ _ _ h => h) (Or.inr ⟨by rfl, rfl⟩) hHeld ?_; (try simp only [Act.put, List.getElem_toArray, List.getElem_cons_succ, List.getElem_cons_zero, List.setIfInBounds_toArray, List.set_cons_zero, List.set_cons_succ]))
                (refine wpAnyH_take (i := 18) (v := _) rfl (by kernel_rfl) (by kernel_rfl) (by kernel_rfl) (fun _ _ _ h => h) (Or.inr ⟨by rfl, rfl⟩) hHeld ?_; (try simp only [Act.put, List.getElem_toArray, List.getElem_cons_succ, List.getElem_cons_zero, List.setIfInBounds_toArray, List.set_cons_zero, List.set_cons_succ]))
                (refine wpAnyH_take (i := 19) (v := ?_) rfl (by kernel_rfl) (by kernel_rfl) (by kernel_rfl) (fun _ _ _ h => h) (Or.inl ⟨by rfl, ?_⟩) hHeld ?_; rotate_left; (focus (intro w hSw; (try dsimp only at hSw); go_simp; try (with_reducible rfl))); (try simp only [Act.put, List.getElem_toArray, List.getElem_cons_succ, List.getElem_cons_zero, List.setIfInBounds_toArray, List.set_cons_zero, List.set_cons_succ]))
                refine wpAnyH_done (by kernel_rfl) ?_ _
                go_wp2_with fail
                go_meet
                case rel => exact ⟨by rw [F1.out]; first | done | rfl | (congr 1; exact decide_eq_false (by omega)) | (congr 1; exact decide_eq_true (by omega)), b_call HBD.out hb2⟩
              · by_cases h15 : iop = 15
                · have h15b : (iop == 15) = true := beq_iff_eq.2 h15
                  have H15 := Lib.hid h15
                  clear h15
                  by_cases hm1 : 0 < m
                  · have F1 : Hid (q2 = true) := Lib.hid (by rw [HQ2.out]; simp [hm1, H15.out])
                    have hm2 : (0 : Int) < m := by omega
                    refine wp_region_held_drew (S := fun w' => (w'.cell? ⟨X, 0, none⟩ = some (.slice ta D.t.length tc) ∧ w'.cell? ⟨X, 1, none⟩ = some (.slice ka D.p.length kc) ∧ w'.cell? ⟨X, 2, none⟩ = some (.int .i64 0)) ∧ w'.cell? ⟨w.heap.size + 2, 0, none⟩ = some (.int .i64 iop)) (by kernel_rfl) (HKX.out _ HBD.out) (fun hHeld => ?_)
                    refine atI 0 ?_
                    iterate 8 (refine takeN (v := ?_) rfl (by rfl) ?_ hHeld ?_; rotate_left; (focus (intro w hSw; (try dsimp only at hSw); go_simp; try (with_reducible rfl))); (try simp only [Act.put, Nat.reduceAdd, List.getElem_toArray, List.getElem_cons_succ, List.getElem_cons_zero, List.setIfInBounds_toArray, List.set_cons_zero, List.set_cons_succ]))
                    refine atIo ?_
                    refine wpAnyH_ready (rs := [8]) (by kernel_rfl) (by simp) (AllReadyH.cons rfl (fun K hK => ?_) AllReadyH.nil)
                    go_simp
                    refine (HSM.out _ _ HBD.out (by rw [E9.out, show st.length - m = 0 by have := E2.out; omega]; exact readI_empty _ _ _ (by have := E6.out; omega))).mono ?_
                    rintro e w2 ⟨rfl, hb2⟩
                    refine hK.out _ _ (HKX.out _ (b_call HBD.out hb2)) (fun hHeld => ?_)
                    clear hK K
                    (try simp only [Act.put, List.getElem_toArray, List.getElem_cons_succ, List.getElem_cons_zero, List.setIfInBounds_toArray, List.set_cons_zero, List.set_cons_succ])
                    refine atI 9 ?_
                    iterate 3 (refine takeN (v := ?_) rfl (by rfl) ?_ hHeld ?_; rotate_left; (focus (intro w hSw; (try dsimp only at hSw); go_simp; try (with_reducible rfl))); (try simp only [Act.put, Nat.reduceAdd, List.getElem_toArray, List.getElem_cons_succ, List.getElem_cons_zero, List.setIfInBounds_toArray, List.set_cons_zero, List.set_cons_succ]))
                    refine atIo ?_
                    refine atI 12 ?_
                    iterate 8 (refine takeN (v := ?_) rfl (by rfl) ?_ hHeld ?_; rotate_left; (focus (intro w hSw; (try dsimp only at hSw); go_simp; try (with_reducible rfl))); (try simp only [Act.put, Nat.reduceAdd, List.getElem_toArray, List.getElem_cons_succ, List.getElem_cons_zero, List.setIfInBounds_toArray, List.set_cons_zero, List.set_cons_succ]))
                    refine atIo ?_
                    refine wpAnyH_done (by kernel_rfl) ?_ _
                    go_wp2_with fail
                    go_meet
                    case rel => exact ⟨by rw [F1.out]; first | done | rfl | (congr 1; exact decide_eq_false (by omega)) | (congr 1; exact decide_eq_true (by omega)), b_call HBD.out hb2⟩
                  · have F1 : Hid (q2 = false) := Lib.hid (by rw [HQ2.out]; simp [hm1])
                    have hm2 : ¬ ((0 : Int) < m) := by omega
                    refine wp_region_held_drew (S := fun w' => (w'.cell? ⟨X, 0, none⟩ = some (.slice ta D.t.length tc) ∧ w'.cell? ⟨X, 1, none⟩ = some (.slice ka D.p.length kc) ∧ w'.cell? ⟨X, 2, none⟩ = some (.int .i64 0)) ∧ w'.cell? ⟨w.heap.size + 2, 0, none⟩ = some (.int .i64 iop)) (by kernel_rfl) (HKX.out _ HBD.out) (fun hHeld => ?_)
                    refine atI 0 ?_
                    iterate 8 (refine takeN (v := ?_) rfl (by rfl) ?_ hHeld ?_; rotate_left; (focus (intro w hSw; (try dsimp only at hSw); go_simp; try (with_reducible rfl))); (try simp only [Act.put, Nat.reduceAdd, List.getElem_toArray, List.getElem_cons_succ, List.getElem_cons_zero, List.setIfInBounds_toArray, List.set_cons_zero, List.set_cons_succ]))
                    refine atIo ?_
                    refine wpAnyH_ready (rs := [8]) (by kernel_rfl) (by simp) (AllReadyH.cons rfl (fun K hK => ?_) AllReadyH.nil)
                    go_simp
                    refine (HSM.out _ _ HBD.out (by rw [E9.out, show st.length - m = 0 by have := E2.out; omega]; exact readI_empty _ _ _ (by have := E6.out; omega))).mono ?_
                    rintro e w2 ⟨rfl, hb2⟩
                    refine hK.out _ _ (HKX.out _ (b_call HBD.out hb2)) (fun hHeld => ?_)
                    clear hK K
                    (try simp only [Act.put, List.getElem_toArray, List.getElem_cons_succ, List.getElem_cons_zero, List.setIfInBounds_toArray, List.set_cons_zero, List.set_cons_succ])
                    refine atI 9 ?_
                    iterate 3 (refine takeN (v := ?_) rfl (by rfl) ?_ hHeld ?_; rotate_left; (focus (intro w hSw; (try dsimp only at hSw); go_simp; try (with_reducible rfl))); (try simp only [Act.put, Nat.reduceAdd, List.getElem_toArray, List.getElem_cons_succ, List.getElem_cons_zero, List.setIfInBounds_toArray, List.set_cons_zero, List.set_cons_succ]))
                    refine atIo ?_
                    refine atI 12 ?_
                    iterate 8 (refine takeN (v := ?_) rfl (by rfl) ?_ hHeld ?_; rotate_left; (focus (intro w hSw; (try dsimp only at hSw); go_simp; try (with_reducible rfl))); (try simp only [Act.put, Nat.reduceAdd, List.getElem_toArray, List.getElem_cons_succ, List.getElem_cons_zero, List.setIfInBounds_toArray, List.set_cons_zero, List.set_cons_succ]))
                    refine atIo ?_
                    refine wpAnyH_done (by kernel_rfl) ?_ _
                    go_wp2_with fail
                    go_meet
                    case rel => exact ⟨by rw [F1.out]; first | done | rfl | (congr 1; exact decide_eq_false (by omega)) | (congr 1; exact decide_eq_true (by omega)), b_call HBD.out hb2⟩
                · have F1 : Hid (q2 = false) := Lib.hid (by rw [HQ2.out]; simp [h15])
                  have n15 : (iop == 15) = false := beq_false_of_ne h15
                  clear h15
                  refine wp_region_held_drew (S := fun w' => (w'.cell? ⟨X, 0, none⟩ = some (.slice ta D.t.length tc) ∧ w'.cell? ⟨X, 1, none⟩ = some (.slice ka D.p.length kc) ∧ w'.cell? ⟨X, 2, none⟩ = some (.int .i64 0)) ∧ w'.cell? ⟨w.heap.size + 2, 0, none⟩ = some (.int .i64 iop)) (by kernel_rfl) (HKX.out _ HBD.out) (fun hHeld => ?_)
                  refine atI 0 ?_
                  iterate 8 (refine takeN (v := ?_) rfl (by rfl) ?_ hHeld ?_; rotate_left; (focus (intro w hSw; (try dsimp only at hSw); go_simp; try (with_reducible rfl))); (try simp only [Act.put, Nat.reduceAdd, List.getElem_toArray, List.getElem_cons_succ, List.getElem_cons_zero, List.setIfInBounds_toArray, List.set_cons_zero, List.set_cons_succ]))
                  refine atIo ?_
                  refine wpAnyH_ready (rs := [8]) (by kernel_rfl) (by simp) (AllReadyH.cons rfl (fun K hK => ?_) AllReadyH.nil)
                  go_simp
                  refine (HSM.out _ _ HBD.out (by rw [E9.out, show st.length - m = 0 by have := E2.out; omega]; exact readI_empty _ _ _ (by have := E6.out; omega))).mono ?_
                  rintro e w2 ⟨rfl, hb2⟩
                  refine hK.out _ _ (HKX.out _ (b_call HBD.out hb2)) (fun hHeld => ?_)
                  clear hK K
                  (try simp only [Act.put, List.getElem_toArray, List.getElem_cons_succ, List.getElem_cons_zero, List.setIfInBounds_toArray, List.set_cons_zero, List.set_cons_succ])
                  refine atI 9 ?_
                  iterate 3 (refine takeN (v := ?_) rfl (by rfl) ?_ hHeld ?_; rotate_left; (focus (intro w hSw; (try dsimp only at hSw); go_simp; try (with_reducible rfl))); (try simp only [Act.put, Nat.reduceAdd, List.getElem_toArray, List.getElem_cons_succ, List.getElem_cons_zero, List.setIfInBounds_toArray, List.set_cons_zero, List.set_cons_succ]))
                  refine atIo ?_
                  refine atI 12 ?_
                  iterate 4 (refine takeN (v := ?_) rfl (by rfl) ?_ hHeld ?_; rotate_left; (focus (intro w hSw; (try dsimp only at hSw); go_simp; try (with_reducible rfl))); (try simp only [Act.put, Nat.reduceAdd, List.getElem_toArray, List.getElem_cons_succ, List.getElem_cons_zero, List.setIfInBounds_toArray, List.set_cons_zero, List.set_cons_succ]))
                  refine atIo ?_
                  (refine wpAnyH_take (i := 16) (v := _) rfl (by kernel_rfl) (by kernel_rfl) (by kernel_rfl) (fun _ _ _ h => h) (Or.inr ⟨by rfl, rfl⟩) hHeld ?_; (try simp only [Act.put, List.getElem_toArray, List.getElem_cons_succ, List.getElem_cons_zero, List.setIfInBounds_toArray, List.set_cons_zero, List.set_cons_succ]))
                  (refine wpAnyH_take (i := 17) (v := _) rfl (by kernel_rfl) (by kernel_rfl) (by kernel_rfl) (fun _ _ _ h => h) (Or.inr ⟨by rfl, rfl⟩) hHeld ?_; (try simp only [Act.put, List.getElem_toArray, List.getElem_cons_succ, List.getElem_cons_zero, List.setIfInBounds_toArray, List.set_cons_zero, List.set_cons_succ]))
                  refine atI 18 ?_
                  iterate 2 (refine takeN (v := ?_) rfl (by rfl) ?_ hHeld ?_; rotate_left; (focus (intro w hSw; (try dsimp only at hSw); go_simp; try (with_reducible rfl))); (try simp only [Act.put, Nat.reduceAdd, List.getElem_toArray, List.getElem_cons_succ, List.getElem_cons_zero, List.setIfInBounds_toArray, List.set_cons_zero, List.set_cons_succ]))
                  refine atIo ?_
                  refine wpAnyH_done (by kernel_rfl) ?_ _
                  go_wp2_with fail
                  go_meet
                  case rel => exact ⟨by rw [F1.out]; first | done | rfl | (congr 1; exact decide_eq_false (by omega)) | (congr 1; exact decide_eq_true (by omega)), b_call HBD.out hb2⟩
            · skip
              cases q
              · have F1 : Hid (q2 = true) := Lib.hid (by rw [HQ2.out]; rfl)
                refine wp_region_held_drew (S := fun w' => (w'.cell? ⟨X, 0, none⟩ = some (.slice ta D.t.length tc) ∧ w'.cell? ⟨X, 1, none⟩ = some (.slice ka D.p.length kc) ∧ w'.cell? ⟨X, 2, none⟩ = some (.int .i64 0)) ∧ w'.cell? ⟨w.heap.size + 2, 0, none⟩ = some (.int .i64 iop)) (by kernel_rfl) (HKX.out _ HBD.out) (fun hHeld => ?_)
                refine atI 0 ?_
                iterate 8 (refine takeN (v := ?_) rfl (by rfl) ?_ hHeld ?_; rotate_left; (focus (intro w hSw; (try dsimp only at hSw); go_simp; try (with_reducible rfl))); (try simp only [Act.put, Nat.reduceAdd, List.getElem_toArray, List.getElem_cons_succ, List.getElem_cons_zero, List.setIfInBounds_toArray, List.set_cons_zero, List.set_cons_succ]))
                refine atIo ?_
                refine wpAnyH_ready (rs := [8]) (by kernel_rfl) (by simp) (AllReadyH.cons rfl (fun K hK => ?_) AllReadyH.nil)
                go_simp
                refine (HSM.out _ _ HBD.out (by rw [E9.out, show st.length - m = 0 by have := E2.out; omega]; exact readI_empty _ _ _ (by have := E6.out; omega))).mono ?_
                rintro e w2 ⟨rfl, hb2⟩
                refine hK.out _ _ (HKX.out _ (b_call HBD.out hb2)) (fun hHeld => ?_)
                clear hK K
                (try simp only [Act.put, List.getElem_toArray, List.getElem_cons_succ, List.getElem_cons_zero, List.setIfInBounds_toArray, List.set_cons_zero, List.set_cons_succ])
                refine atI 9 ?_
                iterate 3 (refine takeN (v := ?_) rfl (by rfl) ?_ hHeld ?_; rotate_left; (focus (intro w hSw; (try dsimp only at hSw); go_simp; try (with_reducible rfl))); (try simp only [Act.put, Nat.reduceAdd, List.getElem_toArray, List.getElem_cons_succ, List.getElem_cons_zero, List.setIfInBounds_toArray, List.set_cons_zero, List.set_cons_succ]))
                refine atIo ?_
                (refine wpAnyH_take (i := 12) (v := _) rfl (by kernel_rfl) (by kernel_rfl) (by kernel_rfl) (fun _ _ _ h => h) (Or.inr ⟨by rfl, rfl⟩) hHeld ?_; (try simp only [Act.put, List.getElem_toArray, List.getElem_cons_succ, List.getElem_cons_zero, List.setIfInBounds_toArray, List.set_cons_zero, List.set_cons_succ]))
                (refine wpAnyH_take (i := 13) (v := _) rfl (by kernel_rfl) (by kernel_rfl) (by kernel_rfl) (fun _ _ _ h => h) (Or.inr ⟨by rfl, rfl⟩) hHeld ?_; (try simp only [Act.put, List.getElem_toArray, List.getElem_cons_succ, List.getElem_cons_zero, List.setIfInBounds_toArray, List.set_cons_zero, List.set_cons_succ]))
                (refine wpAnyH_take (i := 14) (v := _) rfl (by kernel_rfl) (by kernel_rfl) (by kernel_rfl) (fun _ _ _ h => h) (Or.inr ⟨by rfl, rfl⟩) hHeld ?_; (try simp only [Act.put, List.getElem_toArray, List.getElem_cons_succ, List.getElem_cons_zero, List.setIfInBounds_toArray, List.set_cons_zero, List.set_cons_succ]))
                (refine wpAnyH_take (i := 15) (v := _) rfl (by kernel_rfl) (by kernel_rfl) (by kernel_rfl) (fun _ _ _ h => h) (Or.inr ⟨by rfl, rfl⟩) hHeld ?_; (try simp only [Act.put, List.getElem_toArray, List.getElem_cons_succ, List.getElem_cons_zero, List.setIfInBounds_toArray, List.set_cons_zero, List.set_cons_succ]))
                (refine wpAnyH_take (i := 16) (v := _) rfl (by kernel_rfl) (by kernel_rfl) (by kernel_rfl) (fun _ _ _ h => h) (Or.inr ⟨by rfl, rfl⟩) hHeld ?_; (try simp only [Act.put, List.getElem_toArray, List.getElem_cons_succ, List.getElem_cons_zero, List.setIfInBounds_toArray, List.set_cons_zero, List.set_cons_succ]))
                (refine wpAnyH_take (i := 17) (v := _) rfl (by kernel_rfl) (by kernel_rfl) (by kernel_rfl) (fun _ _ _ h => h) (Or.inr ⟨by rfl, rfl⟩) hHeld ?_; (try simp only [Act.put, List.getElem_toArray, List.getElem_cons_succ, List.getElem_cons_zero, List.setIfInBounds_toArray, List.set_cons_zero, List.set_cons_succ]))
                (refine wpAnyH_take (i := 18) (v := _) rfl (by kernel_rfl) (by kernel_rfl) (by kernel_rfl) (fun _ _ _ h => h) (Or.inr ⟨by rfl, rfl⟩) hHeld ?_; (try simp only [Act.put, List.getElem_toArray, List.getElem_cons_succ, List.getElem_cons_zero, List.setIfInBounds_toArray, List.set_cons_zero, List.set_cons_succ]))
                (refine wpAnyH_take (i := 19) (v := ?_) rfl (by kernel_rfl) (by kernel_rfl) (by kernel_rfl) (fun _ _ _ h => h) (Or.inl ⟨by rfl, ?_⟩) hHeld ?_; rotate_left; (focus (intro w hSw; (try dsimp only at hSw); go_simp; try (with_reducible rfl))); (try simp only [Act.put, List.getElem_toArray, List.getElem_cons_succ, List.getElem_cons_zero, List.setIfInBounds_toArray, List.set_cons_zero, List.set_cons_succ]))
                refine wpAnyH_done (by kernel_rfl) ?_ _
                go_wp2_with fail
                go_meet
                case rel => exact ⟨by rw [F1.out]; first | done | rfl | (congr 1; exact decide_eq_false (by omega)) | (congr 1; exact decide_eq_true (by omega)), b_call HBD.out hb2⟩
              · by_cases h15 : iop = 15
                · have h15b : (iop == 15) = true := beq_iff_eq.2 h15
                  have H15 := Lib.hid h15
                  clear h15
                  by_cases hm1 : 0 < m
                  · have F1 : Hid (q2 = true) := Lib.hid (by rw [HQ2.out]; simp [hm1, H15.out])
                    have hm2 : (0 : Int) < m := by omega
                    refine wp_region_held_drew (S := fun w' => (w'.cell? ⟨X, 0, none⟩ = some (.slice ta D.t.length tc) ∧ w'.cell? ⟨X, 1, none⟩ = some (.slice ka D.p.length kc) ∧ w'.cell? ⟨X, 2, none⟩ = some (.int .i64 0)) ∧ w'.cell? ⟨w.heap.size + 2, 0, none⟩ = some (.int .i64 iop)) (by kernel_rfl) (HKX.out _ HBD.out) (fun hHeld => ?_)
                    refine atI 0 ?_
                    iterate 8 (refine takeN (v := ?_) rfl (by rfl) ?_ hHeld ?_; rotate_left; (focus (intro w hSw; (try dsimp only at hSw); go_simp; try (with_reducible rfl))); (try simp only [Act.put, Nat.reduceAdd, List.getElem_toArray, List.getElem_cons_succ, List.getElem_cons_zero, List.setIfInBounds_toArray, List.set_cons_zero, List.set_cons_succ]))
                    refine atIo ?_
                    refine wpAnyH_ready (rs := [8]) (by kernel_rfl) (by simp) (AllReadyH.cons rfl (fun K hK => ?_) AllReadyH.nil)
                    go_simp
                    refine (HSM.out _ _ HBD.out (by rw [E9.out, show st.length - m = 0 by have := E2.out; omega]; exact readI_empty _ _ _ (by have := E6.out; omega))).mono ?_
                    rintro e w2 ⟨rfl, hb2⟩
                    refine hK.out _ _ (HKX.out _ (b_call HBD.out hb2)) (fun hHeld => ?_)
                    clear hK K
                    (try simp only [Act.put, List.getElem_toArray, List.getElem_cons_succ, List.getElem_cons_zero, List.setIfInBounds_toArray, List.set_cons_zero, List.set_cons_succ])
                    refine atI 9 ?_
                    iterate 3 (refine takeN (v := ?_) rfl (by rfl) ?_ hHeld ?_; rotate_left; (focus (intro w hSw; (try dsimp only at hSw); go_simp; try (with_reducible rfl))); (try simp only [Act.put, Nat.reduceAdd, List.getElem_toArray, List.getElem_cons_succ, List.getElem_cons_zero, List.setIfInBounds_toArray, List.set_cons_zero, List.set_cons_succ]))
                    refine atIo ?_
                    refine atI 12 ?_
                    iterate 8 (refine takeN (v := ?_) rfl (by rfl) ?_ hHeld ?_; rotate_left; (focus (intro w hSw; (try dsimp only at hSw); go_simp; try (with_reducible rfl))); (try simp only [Act.put, Nat.reduceAdd, List.getElem_toArray, List.getElem_cons_succ, List.getElem_cons_zero, List.setIfInBounds_toArray, List.set_cons_zero, List.set_cons_succ]))
                    refine atIo ?_
                    refine wpAnyH_done (by kernel_rfl) ?_ _
                    go_wp2_with fail
                    go_meet
                    case rel => exact ⟨by rw [F1.out]; first | done | rfl | (congr 1; exact decide_eq_false (by omega)) | (congr 1; exact decide_eq_true (by omega)), b_call HBD.out hb2⟩
                  · have F1 : Hid (q2 = false) := Lib.hid (by rw [HQ2.out]; simp [hm1])
                    have hm2 : ¬ ((0 : Int) < m) := by omega
                    refine wp_region_held_drew (S := fun w' => (w'.cell? ⟨X, 0, none⟩ = some (.slice ta D.t.length tc) ∧ w'.cell? ⟨X, 1, none⟩ = some (.slice ka D.p.length kc) ∧ w'.cell? ⟨X, 2, none⟩ = some (.int .i64 0)) ∧ w'.cell? ⟨w.heap.size + 2, 0, none⟩ = some (.int .i64 iop)) (by kernel_rfl) (HKX.out _ HBD.out) (fun hHeld => ?_)
                    refine atI 0 ?_
                    iterate 8 (refine takeN (v := ?_) rfl (by rfl) ?_ hHeld ?_; rotate_left; (focus (intro w hSw; (try dsimp only at hSw); go_simp; try (with_reducible rfl))); (try simp only [Act.put, Nat.reduceAdd, List.getElem_toArray, List.getElem_cons_succ, List.getElem_cons_zero, List.setIfInBounds_toArray, List.set_cons_zero, List.set_cons_succ]))
                    refine atIo ?_
                    refine wpAnyH_ready (rs := [8]) (by kernel_rfl) (by simp) (AllReadyH.cons rfl (fun K hK => ?_) AllReadyH.nil)
                    go_simp
                    refine (HSM.out _ _ HBD.out (by rw [E9.out, show st.length - m = 0 by have := E2.out; omega]; exact readI_empty _ _ _ (by have := E6.out; omega))).mono ?_
                    rintro e w2 ⟨rfl, hb2⟩
                    refine hK.out _ _ (HKX.out _ (b_call HBD.out hb2)) (fun hHeld => ?_)
                    clear hK K
                    (try simp only [Act.put, List.getElem_toArray, List.getElem_cons_succ, List.getElem_cons_zero, List.setIfInBounds_toArray, List.set_cons_zero, List.set_cons_succ])
                    refine atI 9 ?_
                    iterate 3 (refine takeN (v := ?_) rfl (by rfl) ?_ hHeld ?_; rotate_left; (focus (intro w hSw; (try dsimp only at hSw); go_simp; try (with_reducible rfl))); (try simp only [Act.put, Nat.reduceAdd, List.getElem_toArray, List.getElem_cons_succ, List.getElem_cons_zero, List.setIfInBounds_toArray, List.set_cons_zero, List.set_cons_succ]))
                    refine atIo ?_
                    refine atI 12 ?_
                    iterate 8 (refine takeN (v := ?_) rfl (by rfl) ?_ hHeld ?_; rotate_left; (focus (intro w hSw; (try dsimp only at hSw); go_simp; try (with_reducible rfl))); (try simp only [Act.put, Nat.reduceAdd, List.getElem_toArray, List.getElem_cons_succ, List.getElem_cons_zero, List.setIfInBounds_toArray, List.set_cons_zero, List.set_cons_succ]))
                    refine atIo ?_
                    refine wpAnyH_done (by kernel_rfl) ?_ _
                    go_wp2_with fail
                    go_meet
                    case rel => exact ⟨by rw [F1.out]; first | done | rfl | (congr 1; exact decide_eq_false (by omega)) | (congr 1; exact decide_eq_true (by omega)), b_call HBD.out hb2⟩
                · have F1 : Hid (q2 = false) := Lib.hid (by rw [HQ2.out]; simp [h15])
                  have n15 : (iop == 15) = false := beq_false_of_ne h15
                  clear h15
                  refine wp_region_held_drew (S := fun w' => (w'.cell? ⟨X, 0, none⟩ = some (.slice ta D.t.length tc) ∧ w'.cell? ⟨X, 1, none⟩ = some (.slice ka D.p.length kc) ∧ w'.cell? ⟨X, 2, none⟩ = some (.int .i64 0)) ∧ w'.cell? ⟨w.heap.size + 2, 0, none⟩ = some (.int .i64 iop)) (by kernel_rfl) (HKX.out _ HBD.out) (fun hHeld => ?_)
                  refine atI 0 ?_
                  iterate 8 (refine takeN (v := ?_) rfl (by rfl) ?_ hHeld ?_; rotate_left; (focus (intro w hSw; (try dsimp only at hSw); go_simp; try (with_reducible rfl))); (try simp only [Act.put, Nat.reduceAdd, List.getElem_toArray, List.getElem_cons_succ, List.getElem_cons_zero, List.setIfInBounds_toArray, List.set_cons_zero, List.set_cons_succ]))
                  refine atIo ?_
                  refine wpAnyH_ready (rs := [8]) (by kernel_rfl) (by simp) (AllReadyH.cons rfl (fun K hK => ?_) AllReadyH.nil)
                  go_simp
                  refine (HSM.out _ _ HBD.out (by rw [E9.out, show st.length - m = 0 by have := E2.out; omega]; exact readI_empty _ _ _ (by have := E6.out; omega))).mono ?_
                  rintro e w2 ⟨rfl, hb2⟩
                  refine hK.out _ _ (HKX.out _ (b_call HBD.out hb2)) (fun hHeld => ?_)
                  clear hK K
                  (try simp only [Act.put, List.getElem_toArray, List.getElem_cons_succ, List.getElem_cons_zero, List.setIfInBounds_toArray, List.set_cons_zero, List.set_cons_succ])
                  refine atI 9 ?_
                  iterate 3 (refine takeN (v := ?_) rfl (by rfl) ?_ hHeld ?_; rotate_left; (focus (intro w hSw; (try dsimp only at hSw); go_simp; try (with_reducible rfl))); (try simp only [Act.put, Nat.reduceAdd, List.getElem_toArray, List.getElem_cons_succ, List.getElem_cons_zero, List.setIfInBounds_toArray, List.set_cons_zero, List.set_cons_succ]))
                  refine atIo ?_
                  refine atI 12 ?_
                  iterate 4 (refine takeN (v := ?_) rfl (by rfl) ?_ hHeld ?_; rotate_left; (focus (intro w hSw; (try dsimp only at hSw); go_simp; try (with_reducible rfl))); (try simp only [Act.put, Nat.reduceAdd, List.getElem_toArray, List.getElem_cons_succ, List.getElem_cons_zero, List.setIfInBounds_toArray, List.set_cons_zero, List.set_cons_succ]))
                  refine atIo ?_
                  (refine wpAnyH_take (i := 16) (v := _) rfl (by kernel_rfl) (by kernel_rfl) (by kernel_rfl) (fun _ _ _ h => h) (Or.inr ⟨by rfl, rfl⟩) hHeld ?_; (try simp only [Act.put, List.getElem_toArray, List.getElem_cons_succ, List.getElem_cons_zero, List.setIfInBounds_toArray, List.set_cons_zero, List.set_cons_succ]))
                  (refine wpAnyH_take (i := 17) (v := _) rfl (by kernel_rfl) (by kernel_rfl) (by kernel_rfl) (fun _ _ _ h => h) (Or.inr ⟨by rfl, rfl⟩) hHeld ?_; (try simp only [Act.put, List.getElem_toArray, List.getElem_cons_succ, List.getElem_cons_zero, List.setIfInBounds_toArray, List.set_cons_zero, List.set_cons_succ]))
                  refine atI 18 ?_
                  iterate 2 (refine takeN (v := ?_) rfl (by rfl) ?_ hHeld ?_; rotate_left; (focus (intro w hSw; (try dsimp only at hSw); go_simp; try (with_reducible rfl))); (try simp only [Act.put, Nat.reduceAdd, List.getElem_toArray, List.getElem_cons_succ, List.getElem_cons_zero, List.setIfInBounds_toArray, List.set_cons_zero, List.set_cons_succ]))
                  refine atIo ?_
                  refine wpAnyH_done (by kernel_rfl) ?_ _
                  go_wp2_with fail
                  go_meet
                  case rel => exact ⟨by rw [F1.out]; first | done | rfl | (congr 1; exact decide_eq_false (by omega)) | (congr 1; exact decide_eq_true (by omega)), b_call HBD.out hb2⟩
          case inr.inr.inl =>
            subst e1
            have hsm2 := cap_le e6
            have E2 := Lib.hid e2
            have E3 := Lib.hid e3
            have E4 := Lib.hid e4
            have hz : (sc = m) = True := by rw [e2]; simp
            clear e2 e3 e4
            cases q
            · have F1 : Hid (q2 = true) := Lib.hid (by rw [HQ2.out]; rfl)
              refine wp_region_held_drew (S := fun w' => (w'.cell? ⟨X, 0, none⟩ = some (.slice ta D.t.length tc) ∧ w'.cell? ⟨X, 1, none⟩ = some (.slice ka D.p.length kc) ∧ w'.cell? ⟨X, 2, none⟩ = some (.int .i64 0)) ∧ w'.cell? ⟨w.heap.size + 2, 0, none⟩ = some (.int .i64 iop)) (by kernel_rfl) (HKX.out _ HBD.out) (fun hHeld => ?_)
              refine atI 0 ?_
              iterate 8 (refine takeN (v := ?_) rfl (by rfl) ?_ hHeld ?_; rotate_left; (focus (intro w hSw; (try dsimp only at hSw); go_simp; try (with_reducible rfl))); (try simp only [Act.put, Nat.reduceAdd, List.getElem_toArray, List.getElem_cons_succ, List.getElem_cons_zero, List.setIfInBounds_toArray, List.set_cons_zero, List.set_cons_succ]))
              refine atIo ?_
              refine wpAnyH_ready (rs := [8]) (by kernel_rfl) (by simp) (AllReadyH.cons rfl (fun K hK => ?_) AllReadyH.nil)
              go_simp
              refine (HSM.out _ _ HBD.out (readI_end E4.out (by have := E2.out; omega) (by have := E3.out; omega))).mono ?_
              rintro e w2 ⟨rfl, hb2⟩
              refine hK.out _ _ (HKX.out _ (b_call HBD.out hb2)) (fun hHeld => ?_)
              clear hK K
              (try simp only [Act.put, List.getElem_toArray, List.getElem_cons_succ, List.getElem_cons_zero, List.setIfInBounds_toArray, List.set_cons_zero, List.set_cons_succ])
              refine atI 9 ?_
              iterate 3 (refine takeN (v := ?_) rfl (by rfl) ?_ hHeld ?_; rotate_left; (focus (intro w hSw; (try dsimp only at hSw); go_simp; try (with_reducible rfl))); (try simp only [Act.put, Nat.reduceAdd, List.getElem_toArray, List.getElem_cons_succ, List.getElem_cons_zero, List.setIfInBounds_toArray, List.set_cons_zero, List.set_cons_succ]))
              refine atIo ?_
              (refine wpAnyH_take (i := 12) (v := _) rfl (by kernel_rfl) (by kernel_rfl) (by kernel_rfl) (fun _ _ _ h => h) (Or.inr ⟨by rfl, rfl⟩) hHeld ?_; (try simp only [Act.put, List.getElem_toArray, List.getElem_cons_succ, List.getElem_cons_zero, List.setIfInBounds_toArray, List.set_cons_zero, List.set_cons_succ]))
              (refine wpAnyH_take (i := 13) (v := _) rfl (by kernel_rfl) (by kernel_rfl) (by kernel_rfl) (fun _ _ _ h => h) (Or.inr ⟨by rfl, rfl⟩) hHeld ?_; (try simp only [Act.put, List.getElem_toArray, List.getElem_cons_succ, List.getElem_cons_zero, List.setIfInBounds_toArray, List.set_cons_zero, List.set_cons_succ]))
              (refine wpAnyH_take (i := 14) (v := _) rfl (by kernel_rfl) (by kernel_rfl) (by kernel_rfl) (fun _ _ _ h => h) (Or.inr ⟨by rfl, rfl⟩) hHeld ?_; (try simp only [Act.put, List.getElem_toArray, List.getElem_cons_succ, List.getElem_cons_zero, List.setIfInBounds_toArray, List.set_cons_zero, List.set_cons_succ]))
              (refine wpAnyH_take (i := 15) (v := _) rfl (by kernel_rfl) (by kernel_rfl) (by kernel_rfl) (fun _ _ _ h => h) (Or.inr ⟨by rfl, rfl⟩) hHeld ?_; (try simp only [Act.put, List.getElem_toArray, List.getElem_cons_succ, List.getElem_cons_zero, List.setIfInBounds_toArray, List.set_cons_zero, List.set_cons_succ]))
              (refine wpAnyH_take (i := 16) (v := _) rfl (by kernel_rfl) (by kernel_rfl) (by kernel_rfl) (fun _ _ _ h => h) (Or.inr ⟨by rfl, rfl⟩) hHeld ?_; (try simp only [Act.put, List.getElem_toArray, List.getElem_cons_succ, List.getElem_cons_zero, List.setIfInBounds_toArray, List.set_cons_zero, List.set_cons_succ]))
              (refine wpAnyH_take (i := 17) (v := _) rfl (by kernel_rfl) (by kernel_rfl) (by kernel_rfl) (fun _ _ _ h => h) (Or.inr ⟨by rfl, rfl⟩) hHeld ?_; (try simp only [Act.put, List.getElem_toArray, List.getElem_cons_succ, List.getElem_cons_zero, List.setIfInBounds_toArray, List.set_cons_zero, List.set_cons_succ]))
              (refine wpAnyH_take (i := 18) (v := _) rfl (by kernel_rfl) (by kernel_rfl) (by kernel_rfl) (fun _ _ _ h => h) (Or.inr ⟨by rfl, rfl⟩) hHeld ?_; (try simp only [Act.put, List.getElem_toArray, List.getElem_cons_succ, List.getElem_cons_zero, List.setIfInBounds_toArray, List.set_cons_zero, List.set_cons_succ]))
              (refine wpAnyH_take (i := 19) (v := ?_) rfl (by kernel_rfl) (by kernel_rfl) (by kernel_rfl) (fun _ _ _ h => h) (Or.inl ⟨by rfl, ?_⟩) hHeld ?_; rotate_left; (focus (intro w hSw; (try dsimp only at hSw); go_simp; try (with_reducible rfl))); (try simp only [Act.put, List.getElem_toArray, List.getElem_cons_succ, List.getElem_cons_zero, List.setIfInBounds_toArray, List.set_cons_zero, List.set_cons_succ]))
              refine wpAnyH_done (by kernel_rfl) ?_ _
              go_wp2_with fail
              go_meet
              case rel => exact ⟨by rw [F1.out]; first | done | rfl | (congr 1; exact decide_eq_false (by omega)) | (congr 1; exact decide_eq_true (by omega)), b_call HBD.out hb2⟩
            · by_cases h15 : iop = 15
              · have h15b : (iop == 15) = true := beq_iff_eq.2 h15
                have H15 := Lib.hid h15
                clear h15
                by_cases hm1 : 0 < m
                · have F1 : Hid (q2 = true) := Lib.hid (by rw [HQ2.out]; simp [hm1, H15.out])
                  have hm2 : (0 : Int) < m := by omega
                  refine wp_region_held_drew (S := fun w' => (w'.cell? ⟨X, 0, none⟩ = some (.slice ta D.t.length tc) ∧ w'.cell? ⟨X, 1, none⟩ = some (.slice ka D.p.length kc) ∧ w'.cell? ⟨X, 2, none⟩ = some (.int .i64 0)) ∧ w'.cell? ⟨w.heap.size + 2, 0, none⟩ = some (.int .i64 iop)) (by kernel_rfl) (HKX.out _ HBD.out) (fun hHeld => ?_)
                  refine atI 0 ?_
                  iterate 8 (refine takeN (v := ?_) rfl (by rfl) ?_ hHeld ?_; rotate_left; (focus (intro w hSw; (try dsimp only at hSw); go_simp; try (with_reducible rfl))); (try simp only [Act.put, Nat.reduceAdd, List.getElem_toArray, List.getElem_cons_succ, List.getElem_cons_zero, List.setIfInBounds_toArray, List.set_cons_zero, List.set_cons_succ]))
                  refine atIo ?_
                  refine wpAnyH_ready (rs := [8]) (by kernel_rfl) (by simp) (AllReadyH.cons rfl (fun K hK => ?_) AllReadyH.nil)
                  go_simp
                  refine (HSM.out _ _ HBD.out (readI_end E4.out (by have := E2.out; omega) (by have := E3.out; omega))).mono ?_
                  rintro e w2 ⟨rfl, hb2⟩
                  refine hK.out _ _ (HKX.out _ (b_call HBD.out hb2)) (fun hHeld => ?_)
                  clear hK K
                  (try simp only [Act.put, List.getElem_toArray, List.getElem_cons_succ, List.getElem_cons_zero, List.setIfInBounds_toArray, List.set_cons_zero, List.set_cons_succ])
                  refine atI 9 ?_
                  iterate 3 (refine takeN (v := ?_) rfl (by rfl) ?_ hHeld ?_; rotate_left; (focus (intro w hSw; (try dsimp only at hSw); go_simp; try (with_reducible rfl))); (try simp only [Act.put, Nat.reduceAdd, List.getElem_toArray, List.getElem_cons_succ, List.getElem_cons_zero, List.setIfInBounds_toArray, List.set_cons_zero, List.set_cons_succ]))
                  refine atIo ?_
                  refine atI 12 ?_
                  iterate 8 (refine takeN (v := ?_) rfl (by rfl) ?_ hHeld ?_; rotate_left; (focus (intro w hSw; (try dsimp only at hSw); go_simp; try (with_reducible rfl))); (try simp only [Act.put, Nat.reduceAdd, List.getElem_toArray, List.getElem_cons_succ, List.getElem_cons_zero, List.setIfInBounds_toArray, List.set_cons_zero, List.set_cons_succ]))
                  refine atIo ?_
                  refine wpAnyH_done (by kernel_rfl) ?_ _
                  go_wp2_with fail
                  go_meet
                  case rel => exact ⟨by rw [F1.out]; first | done | rfl | (congr 1; exact decide_eq_false (by omega)) | (congr 1; exact decide_eq_true (by omega)), b_call HBD.out hb2⟩
                · have F1 : Hid (q2 = false) := Lib.hid (by rw [HQ2.out]; simp [hm1])
                  have hm2 : ¬ ((0 : Int) < m) := by omega
                  refine wp_region_held_drew (S := fun w' => (w'.cell? ⟨X, 0, none⟩ = some (.slice ta D.t.length tc) ∧ w'.cell? ⟨X, 1, none⟩ = some (.slice ka D.p.length kc) ∧ w'.cell? ⟨X, 2, none⟩ = some (.int .i64 0)) ∧ w'.cell? ⟨w.heap.size + 2, 0, none⟩ = some (.int .i64 iop)) (by kernel_rfl) (HKX.out _ HBD.out) (fun hHeld => ?_)
                  refine atI 0 ?_
                  iterate 8 (refine takeN (v := ?_) rfl (by rfl) ?_ hHeld ?_; rotate_left; (focus (intro w hSw; (try dsimp only at hSw); go_simp; try (with_reducible rfl))); (try simp only [Act.put, Nat.reduceAdd, List.getElem_toArray, List.getElem_cons_succ, List.getElem_cons_zero, List.setIfInBounds_toArray, List.set_cons_zero, List.set_cons_succ]))
                  refine atIo ?_
                  refine wpAnyH_ready (rs := [8]) (by kernel_rfl) (by simp) (AllReadyH.cons rfl (fun K hK => ?_) AllReadyH.nil)
                  go_simp
                  refine (HSM.out _ _ HBD.out (readI_end E4.out (by have := E2.out; omega) (by have := E3.out; omega))).mono ?_
                  rintro e w2 ⟨rfl, hb2⟩
                  refine hK.out _ _ (HKX.out _ (b_call HBD.out hb2)) (fun hHeld => ?_)
                  clear hK K
                  (try simp only [Act.put, List.getElem_toArray, List.getElem_cons_succ, List.getElem_cons_zero, List.setIfInBounds_toArray, List.set_cons_zero, List.set_cons_succ])
                  refine atI 9 ?_
                  iterate 3 (refine takeN (v := ?_) rfl (by rfl) ?_ hHeld ?_; rotate_left; (focus (intro w hSw; (try dsimp only at hSw); go_simp; try (with_reducible rfl))); (try simp only [Act.put, Nat.reduceAdd, List.getElem_toArray, List.getElem_cons_succ, List.getElem_cons_zero, List.setIfInBounds_toArray, List.set_cons_zero, List.set_cons_succ]))
                  refine atIo ?_
                  refine atI 12 ?_
                  iterate 8 (refine takeN (v := ?_) rfl (by rfl) ?_ hHeld ?_; rotate_left; (focus (intro w hSw; (try dsimp only at hSw); go_simp; try (with_reducible rfl))); (try simp only [Act.put, Nat.reduceAdd, List.getElem_toArray, List.getElem_cons_succ, List.getElem_cons_zero, List.setIfInBounds_toArray, List.set_cons_zero, List.set_cons_succ]))
                  refine atIo ?_
                  refine wpAnyH_done (by kernel_rfl) ?_ _
                  go_wp2_with fail
                  go_meet
                  case rel => exact ⟨by rw [F1.out]; first | done | rfl | (congr 1; exact decide_eq_false (by omega)) | (congr 1; exact decide_eq_true (by omega)), b_call HBD.out hb2⟩
              · have F1 : Hid (q2 = false) := Lib.hid (by rw [HQ2.out]; simp [h15])
                have n15 : (iop == 15) = false := beq_false_of_ne h15
                clear h15
                refine wp_region_held_drew (S := fun w' => (w'.cell? ⟨X, 0, none⟩ = some (.slice ta D.t.length tc) ∧ w'.cell? ⟨X, 1, none⟩ = some (.slice ka D.p.length kc) ∧ w'.cell? ⟨X, 2, none⟩ = some (.int .i64 0)) ∧ w'.cell? ⟨w.heap.size + 2, 0, none⟩ = some (.int .i64 iop)) (by kernel_rfl) (HKX.out _ HBD.out) (fun hHeld => ?_)
                refine atI 0 ?_
                iterate 8 (refine takeN (v := ?_) rfl (by rfl) ?_ hHeld ?_; rotate_left; (focus (intro w hSw; (try dsimp only at hSw); go_simp; try (with_reducible rfl))); (try simp only [Act.put, Nat.reduceAdd, List.getElem_toArray, List.getElem_cons_succ, List.getElem_cons_zero, List.setIfInBounds_toArray, List.set_cons_zero, List.set_cons_succ]))
                refine atIo ?_
                refine wpAnyH_ready (rs := [8]) (by kernel_rfl) (by simp) (AllReadyH.cons rfl (fun K hK => ?_) AllReadyH.nil)
                go_simp
                refine (HSM.out _ _ HBD.out (readI_end E4.out (by have := E2.out; omega) (by have := E3.out; omega))).mono ?_
                rintro e w2 ⟨rfl, hb2⟩
                refine hK.out _ _ (HKX.out _ (b_call HBD.out hb2)) (fun hHeld => ?_)
                clear hK K
                (try simp only [Act.put, List.getElem_toArray, List.getElem_cons_succ, List.getElem_cons_zero, List.setIfInBounds_toArray, List.set_cons_zero, List.set_cons_succ])
                refine atI 9 ?_
                iterate 3 (refine takeN (v := ?_) rfl (by rfl) ?_ hHeld ?_; rotate_left; (focus (intro w hSw; (try dsimp only at hSw); go_simp; try (with_reducible rfl))); (try simp only [Act.put, Nat.reduceAdd, List.getElem_toArray, List.getElem_cons_succ, List.getElem_cons_zero, List.setIfInBounds_toArray, List.set_cons_zero, List.set_cons_succ]))
                refine atIo ?_
                refine atI 12 ?_
                iterate 4 (refine takeN (v := ?_) rfl (by rfl) ?_ hHeld ?_; rotate_left; (focus (intro w hSw; (try dsimp only at hSw); go_simp; try (with_reducible rfl))); (try simp only [Act.put, Nat.reduceAdd, List.getElem_toArray, List.getElem_cons_succ, List.getElem_cons_zero, List.setIfInBounds_toArray, List.set_cons_zero, List.set_cons_succ]))
                refine atIo ?_
                (refine wpAnyH_take (i := 16) (v := _) rfl (by kernel_rfl) (by kernel_rfl) (by kernel_rfl) (fun _ _ _ h => h) (Or.inr ⟨by rfl, rfl⟩) hHeld ?_; (try simp only [Act.put, List.getElem_toArray, List.getElem_cons_succ, List.getElem_cons_zero, List.setIfInBounds_toArray, List.set_cons_zero, List.set_cons_succ]))
                (refine wpAnyH_take (i := 17) (v := _) rfl (by kernel_rfl) (by kernel_rfl) (by kernel_rfl) (fun _ _ _ h => h) (Or.inr ⟨by rfl, rfl⟩) hHeld ?_; (try simp only [Act.put, List.getElem_toArray, List.getElem_cons_succ, List.getElem_cons_zero, List.setIfInBounds_toArray, List.set_cons_zero, List.set_cons_succ]))
                refine atI 18 ?_
                iterate 2 (refine takeN (v := ?_) rfl (by rfl) ?_ hHeld ?_; rotate_left; (focus (intro w hSw; (try dsimp only at hSw); go_simp; try (with_reducible rfl))); (try simp only [Act.put, Nat.reduceAdd, List.getElem_toArray, List.getElem_cons_succ, List.getElem_cons_zero, List.setIfInBounds_toArray, List.set_cons_zero, List.set_cons_succ]))
                refine atIo ?_
                refine wpAnyH_done (by kernel_rfl) ?_ _
                go_wp2_with fail
                go_meet
                case rel => exact ⟨by rw [F1.out]; first | done | rfl | (congr 1; exact decide_eq_false (by omega)) | (congr 1; exact decide_eq_true (by omega)), b_call HBD.out hb2⟩
          case inr.inr.inr =>
            subst e1
            have hsm2 := cap_le e4
            have E6 := Lib.hid e6
            clear e6
            cases q
            · have F1 : Hid (q2 = true) := Lib.hid (by rw [HQ2.out]; rfl)
              refine wp_region_held_drew (S := fun w' => (w'.cell? ⟨X, 0, none⟩ = some (.slice ta D.t.length tc) ∧ w'.cell? ⟨X, 1, none⟩ = some (.slice ka D.p.length kc) ∧ w'.cell? ⟨X, 2, none⟩ = some (.int .i64 0)) ∧ w'.cell? ⟨w.heap.size + 2, 0, none⟩ = some (.int .i64 iop)) (by kernel_rfl) (HKX.out _ HBD.out) (fun hHeld => ?_)
              refine atI 0 ?_
              iterate 8 (refine takeN (v := ?_) rfl (by rfl) ?_ hHeld ?_; rotate_left; (focus (intro w hSw; (try dsimp only at hSw); go_simp; try (with_reducible rfl))); (try simp only [Act.put, Nat.reduceAdd, List.getElem_toArray, List.getElem_cons_succ, List.getElem_cons_zero, List.setIfInBounds_toArray, List.set_cons_zero, List.set_cons_succ]))
              refine atIo ?_
              refine wpAnyH_ready (rs := [8]) (by kernel_rfl) (by simp) (AllReadyH.cons rfl (fun K hK => ?_) AllReadyH.nil)
              go_simp
              refine (HSM.out _ _ HBD.out (E6.out _ HBD.out)).mono ?_
              rintro e w2 ⟨rfl, hb2⟩
              refine hK.out _ _ (HKX.out _ (b_call HBD.out hb2)) (fun hHeld => ?_)
              clear hK K
              (try simp only [Act.put, List.getElem_toArray, List.getElem_cons_succ, List.getElem_cons_zero, List.setIfInBounds_toArray, List.set_cons_zero, List.set_cons_succ])
              refine atI 9 ?_
              iterate 3 (refine takeN (v := ?_) rfl (by rfl) ?_ hHeld ?_; rotate_left; (focus (intro w hSw; (try dsimp only at hSw); go_simp; try (with_reducible rfl))); (try simp only [Act.put, Nat.reduceAdd, List.getElem_toArray, List.getElem_cons_succ, List.getElem_cons_zero, List.setIfInBounds_toArray, List.set_cons_zero, List.set_cons_succ]))
              refine atIo ?_
              (refine wpAnyH_take (i := 12) (v := _) rfl (by kernel_rfl) (by kernel_rfl) (by kernel_rfl) (fun _ _ _ h => h) (Or.inr ⟨by rfl, rfl⟩) hHeld ?_; (try simp only [Act.put, List.getElem_toArray, List.getElem_cons_succ, List.getElem_cons_zero, List.setIfInBounds_toArray, List.set_cons_zero, List.set_cons_succ]))
              (refine wpAnyH_take (i := 13) (v := _) rfl (by kernel_rfl) (by kernel_rfl) (by kernel_rfl) (fun _ _ _ h => h) (Or.inr ⟨by rfl, rfl⟩) hHeld ?_; (try simp only [Act.put, List.getElem_toArray, List.getElem_cons_succ, List.getElem_cons_zero, List.setIfInBounds_toArray, List.set_cons_zero, List.set_cons_succ]))
              (refine wpAnyH_take (i := 14) (v := _) rfl (by kernel_rfl) (by kernel_rfl) (by kernel_rfl) (fun _ _ _ h => h) (Or.inr ⟨by rfl, rfl⟩) hHeld ?_; (try simp only [Act.put, List.getElem_toArray, List.getElem_cons_succ, List.getElem_cons_zero, List.setIfInBounds_toArray, List.set_cons_zero, List.set_cons_succ]))
              (refine wpAnyH_take (i := 15) (v := _) rfl (by kernel_rfl) (by kernel_rfl) (by kernel_rfl) (fun _ _ _ h => h) (Or.inr ⟨by rfl, rfl⟩) hHeld ?_; (try simp only [Act.put, List.getElem_toArray, List.getElem_cons_succ, List.getElem_cons_zero, List.setIfInBounds_toArray, List.set_cons_zero, List.set_cons_succ]))
              (refine wpAnyH_take (i := 16) (v := _) rfl (by kernel_rfl) (by kernel_rfl) (by kernel_rfl) (fun _ _ _ h => h) (Or.inr ⟨by rfl, rfl⟩) hHeld ?_; (try simp only [Act.put, List.getElem_toArray, List.getElem_cons_succ, List.getElem_cons_zero, List.setIfInBounds_toArray, List.set_cons_zero, List.set_cons_succ]))
              (refine wpAnyH_take (i := 17) (v := _) rfl (by kernel_rfl) (by kernel_rfl) (by kernel_rfl) (fun _ _ _ h => h) (Or.inr ⟨by rfl, rfl⟩) hHeld ?_; (try simp only [Act.put, List.getElem_toArray, List.getElem_cons_succ, List.getElem_cons_zero, List.setIfInBounds_toArray, List.set_cons_zero, List.set_cons_succ]))
              (refine wpAnyH_take (i := 18) (v := _) rfl (by kernel_rfl) (by kernel_rfl) (by kernel_rfl) (fun _ _ _ h => h) (Or.inr ⟨by rfl, rfl⟩) hHeld ?_; (try simp only [Act.put, List.getElem_toArray, List.getElem_cons_succ, List.getElem_cons_zero, List.setIfInBounds_toArray, List.set_cons_zero, List.set_cons_succ]))
              (refine wpAnyH_take (i := 19) (v := ?_) rfl (by kernel_rfl) (by kernel_rfl) (by kernel_rfl) (fun _ _ _ h => h) (Or.inl ⟨by rfl, ?_⟩) hHeld ?_; rotate_left; (focus (intro w hSw; (try dsimp only at hSw); go_simp; try (with_reducible rfl))); (try simp only [Act.put, List.getElem_toArray, List.getElem_cons_succ, List.getElem_cons_zero, List.setIfInBounds_toArray, List.set_cons_zero, List.set_cons_succ]))
              refine wpAnyH_done (by kernel_rfl) ?_ _
              go_wp2_with fail
              go_meet
              case rel => exact ⟨by rw [F1.out]; first | done | rfl | (congr 1; exact decide_eq_false (by omega)) | (congr 1; exact decide_eq_true (by omega)), b_call HBD.out hb2⟩
            · by_cases h15 : iop = 15
              · have h15b : (iop == 15) = true := beq_iff_eq.2 h15
                have H15 := Lib.hid h15
                clear h15
                by_cases hm1 : 0 < m
                · have F1 : Hid (q2 = true) := Lib.hid (by rw [HQ2.out]; simp [hm1, H15.out])
                  have hm2 : (0 : Int) < m := by omega
                  refine wp_region_held_drew (S := fun w' => (w'.cell? ⟨X, 0, none⟩ = some (.slice ta D.t.length tc) ∧ w'.cell? ⟨X, 1, none⟩ = some (.slice ka D.p.length kc) ∧ w'.cell? ⟨X, 2, none⟩ = some (.int .i64 0)) ∧ w'.cell? ⟨w.heap.size + 2, 0, none⟩ = some (.int .i64 iop)) (by kernel_rfl) (HKX.out _ HBD.out) (fun hHeld => ?_)
                  refine atI 0 ?_
                  iterate 8 (refine takeN (v := ?_) rfl (by rfl) ?_ hHeld ?_; rotate_left; (focus (intro w hSw; (try dsimp only at hSw); go_simp; try (with_reducible rfl))); (try simp only [Act.put, Nat.reduceAdd, List.getElem_toArray, List.getElem_cons_succ, List.getElem_cons_zero, List.setIfInBounds_toArray, List.set_cons_zero, List.set_cons_succ]))
                  refine atIo ?_
                  refine wpAnyH_ready (rs := [8]) (by kernel_rfl) (by simp) (AllReadyH.cons rfl (fun K hK => ?_) AllReadyH.nil)
                  go_simp
                  refine (HSM.out _ _ HBD.out (E6.out _ HBD.out)).mono ?_
                  rintro e w2 ⟨rfl, hb2⟩
                  refine hK.out _ _ (HKX.out _ (b_call HBD.out hb2)) (fun hHeld => ?_)
                  clear hK K
                  (try simp only [Act.put, List.getElem_toArray, List.getElem_cons_succ, List.getElem_cons_zero, List.setIfInBounds_toArray, List.set_cons_zero, List.set_cons_succ])
                  refine atI 9 ?_
                  iterate 3 (refine takeN (v := ?_) rfl (by rfl) ?_ hHeld ?_; rotate_left; (focus (intro w hSw; (try dsimp only at hSw); go_simp; try (with_reducible rfl))); (try simp only [Act.put, Nat.reduceAdd, List.getElem_toArray, List.getElem_cons_succ, List.getElem_cons_zero, List.setIfInBounds_toArray, List.set_cons_zero, List.set_cons_succ]))
                  refine atIo ?_
                  refine atI 12 ?_
                  iterate 8 (refine takeN (v := ?_) rfl (by rfl) ?_ hHeld ?_; rotate_left; (focus (intro w hSw; (try dsimp only at hSw); go_simp; try (with_reducible rfl))); (try simp only [Act.put, Nat.reduceAdd, List.getElem_toArray, List.getElem_cons_succ, List.getElem_cons_zero, List.setIfInBounds_toArray, List.set_cons_zero, List.set_cons_succ]))
                  refine atIo ?_
                  refine wpAnyH_done (by kernel_rfl) ?_ _
                  go_wp2_with fail
                  go_meet
                  case rel => exact ⟨by rw [F1.out]; first | done | rfl | (congr 1; exact decide_eq_false (by omega)) | (congr 1; exact decide_eq_true (by omega)), b_call HBD.out hb2⟩
                · have F1 : Hid (q2 = false) := Lib.hid (by rw [HQ2.out]; simp [hm1])
                  have hm2 : ¬ ((0 : Int) < m) := by omega
                  refine wp_region_held_drew (S := fun w' => (w'.cell? ⟨X, 0, none⟩ = some (.slice ta D.t.length tc) ∧ w'.cell? ⟨X, 1, none⟩ = some (.slice ka D.p.length kc) ∧ w'.cell? ⟨X, 2, none⟩ = some (.int .i64 0)) ∧ w'.cell? ⟨w.heap.size + 2, 0, none⟩ = some (.int .i64 iop)) (by kernel_rfl) (HKX.out _ HBD.out) (fun hHeld => ?_)
                  refine atI 0 ?_
                  iterate 8 (refine takeN (v := ?_) rfl (by rfl) ?_ hHeld ?_; rotate_left; (focus (intro w hSw; (try dsimp only at hSw); go_simp; try (with_reducible rfl))); (try simp only [Act.put, Nat.reduceAdd, List.getElem_toArray, List.getElem_cons_succ, List.getElem_cons_zero, List.setIfInBounds_toArray, List.set_cons_zero, List.set_cons_succ]))
                  refine atIo ?_
                  refine wpAnyH_ready (rs := [8]) (by kernel_rfl) (by simp) (AllReadyH.cons rfl (fun K hK => ?_) AllReadyH.nil)
                  go_simp
                  refine (HSM.out _ _ HBD.out (E6.out _ HBD.out)).mono ?_
                  rintro e w2 ⟨rfl, hb2⟩
                  refine hK.out _ _ (HKX.out _ (b_call HBD.out hb2)) (fun hHeld => ?_)
                  clear hK K
                  (try simp only [Act.put, List.getElem_toArray, List.getElem_cons_succ, List.getElem_cons_zero, List.setIfInBounds_toArray, List.set_cons_zero, List.set_cons_succ])
                  refine atI 9 ?_
                  iterate 3 (refine takeN (v := ?_) rfl (by rfl) ?_ hHeld ?_; rotate_left; (focus (intro w hSw; (try dsimp only at hSw); go_simp; try (with_reducible rfl))); (try simp only [Act.put, Nat.reduceAdd, List.getElem_toArray, List.getElem_cons_succ, List.getElem_cons_zero, List.setIfInBounds_toArray, List.set_cons_zero, List.set_cons_succ]))
                  refine atIo ?_
                  refine atI 12 ?_
                  iterate 8 (refine takeN (v := ?_) rfl (by rfl) ?_ hHeld ?_; rotate_left; (focus (intro w hSw; (try dsimp only at hSw); go_simp; try (with_reducible rfl))); (try simp only [Act.put, Nat.reduceAdd, List.getElem_toArray, List.getElem_cons_succ, List.getElem_cons_zero, List.setIfInBounds_toArray, List.set_cons_zero, List.set_cons_succ]))
                  refine atIo ?_
                  refine wpAnyH_done (by kernel_rfl) ?_ _
                  go_wp2_with fail
                  go_meet
                  case rel => exact ⟨by rw [F1.out]; first | done | rfl | (congr 1; exact decide_eq_false (by omega)) | (congr 1; exact decide_eq_true (by omega)), b_call HBD.out hb2⟩
              · have F1 : Hid (q2 = false) := Lib.hid (by rw [HQ2.out]; simp [h15])
                have n15 : (iop == 15) = false := beq_false_of_ne h15
                clear h15
                refine wp_region_held_drew (S := fun w' => (w'.cell? ⟨X, 0, none⟩ = some (.slice ta D.t.length tc) ∧ w'.cell? ⟨X, 1, none⟩ = some (.slice ka D.p.length kc) ∧ w'.cell? ⟨X, 2, none⟩ = some (.int .i64 0)) ∧ w'.cell? ⟨w.heap.size + 2, 0, none⟩ = some (.int .i64 iop)) (by kernel_rfl) (HKX.out _ HBD.out) (fun hHeld => ?_)
                refine atI 0 ?_
                iterate 8 (refine takeN (v := ?_) rfl (by rfl) ?_ hHeld ?_; rotate_left; (focus (intro w hSw; (try dsimp only at hSw); go_simp; try (with_reducible rfl))); (try simp only [Act.put, Nat.reduceAdd, List.getElem_toArray, List.getElem_cons_succ, List.getElem_cons_zero, List.setIfInBounds_toArray, List.set_cons_zero, List.set_cons_succ]))
                refine atIo ?_
                refine wpAnyH_ready (rs := [8]) (by kernel_rfl) (by simp) (AllReadyH.cons rfl (fun K hK => ?_) AllReadyH.nil)
                go_simp
                refine (HSM.out _ _ HBD.out (E6.out _ HBD.out)).mono ?_
                rintro e w2 ⟨rfl, hb2⟩
                refine hK.out _ _ (HKX.out _ (b_call HBD.out hb2)) (fun hHeld => ?_)
                clear hK K
                (try simp only [Act.put, List.getElem_toArray, List.getElem_cons_succ, List.getElem_cons_zero, List.setIfInBounds_toArray, List.set_cons_zero, List.set_cons_succ])
                refine atI 9 ?_
                iterate 3 (refine takeN (v := ?_) rfl (by rfl) ?_ hHeld ?_; rotate_left; (focus (intro w hSw; (try dsimp only at hSw); go_simp; try (with_reducible rfl))); (try simp only [Act.put, Nat.reduceAdd, List.getElem_toArray, List.getElem_cons_succ, List.getElem_cons_zero, List.setIfInBounds_toArray, List.set_cons_zero, List.set_cons_succ]))
                refine atIo ?_
                refine atI 12 ?_
                iterate 4 (refine takeN (v := ?_) rfl (by rfl) ?_ hHeld ?_; rotate_left; (focus (intro w hSw; (try dsimp only at hSw); go_simp; try (with_reducible rfl))); (try simp only [Act.put, Nat.reduceAdd, List.getElem_toArray, List.getElem_cons_succ, List.getElem_cons_zero, List.setIfInBounds_toArray, List.set_cons_zero, List.set_cons_succ]))
                refine atIo ?_
                (refine wpAnyH_take (i := 16) (v := _) rfl (by kernel_rfl) (by kernel_rfl) (by kernel_rfl) (fun _ _ _ h => h) (Or.inr ⟨by rfl, rfl⟩) hHeld ?_; (try simp only [Act.put, List.getElem_toArray, List.getElem_cons_succ, List.getElem_cons_zero, List.setIfInBounds_toArray, List.set_cons_zero, List.set_cons_succ]))
                (refine wpAnyH_take (i := 17) (v := _) rfl (by kernel_rfl) (by kernel_rfl) (by kernel_rfl) (fun _ _ _ h => h) (Or.inr ⟨by rfl, rfl⟩) hHeld ?_; (try simp only [Act.put, List.getElem_toArray, List.getElem_cons_succ, List.getElem_cons_zero, List.setIfInBounds_toArray, List.set_cons_zero, List.set_cons_succ]))
                refine atI 18 ?_
                iterate 2 (refine takeN (v := ?_) rfl (by rfl) ?_ hHeld ?_; rotate_left; (focus (intro w hSw; (try dsimp only at hSw); go_simp; try (with_reducible rfl))); (try simp only [Act.put, Nat.reduceAdd, List.getElem_toArray, List.getElem_cons_succ, List.getElem_cons_zero, List.setIfInBounds_toArray, List.set_cons_zero, List.set_cons_succ]))
                refine atIo ?_
                refine wpAnyH_done (by kernel_rfl) ?_ _
                go_wp2_with fail
                go_meet
                case rel => exact ⟨by rw [F1.out]; first | done | rfl | (congr 1; exact decide_eq_false (by omega)) | (congr 1; exact decide_eq_true (by omega)), b_call HBD.out hb2⟩
        case rest =>
          obtain ⟨rfl, hbd⟩ := hcut
          have HBD := Lib.hid hbd
          have HB03 := Lib.hid (b_call HB02.out hbd)
          have HRP3 := Lib.hid (readI_below HRP.out hbd)
          have HST3 := Lib.hid (readI_below HST2.out hbd)
          clear hbd HSM
          have hQ2 : (st.drop m ≠ D.t ∨ (iop = 15 ∧ 0 < m)) ↔ q2 = true := by
            rw [HQ2.out, HQ.out]
            by_cases e1 : st.drop m = D.t <;> simp [e1]
          have HEE2 : Hid (E = if q2 = true then bad 2 else if 16 < m + D.p.length then bad 3 else if (waysI ⟨iop, ix, ia, ib⟩ k).any (outB f) = true then bad 1 else if (waysI ⟨iop, ix, ia, ib⟩ k).any (backB f k) = true then bad 6 else ⟨st.take m ++ D.p, waysI ⟨iop, ix, ia, ib⟩ k, 0⟩) := Lib.hid (by
            rw [HEE.out]; simp only [hQ2])
          clear hQ2 HEE HQ2 HQ
          obtain ⟨W3, hW3⟩ : ∃ W3, W3 = wc := ⟨_, rfl⟩
          subst hW3
          cases q2
          case true =>
            have EE : Hid (E = bad 2) := Lib.hid (by rw [HEE2.out]; rfl)
            go_wp2_with fail
            go_ret3
            show RetD w _ _ _
            rw [EE.out]
            exact ⟨none, 0, none, 0, rfl, readI_nil _, readI_nil _, HB03.out⟩
          case false =>
            obtain ⟨LL, hLL⟩ : ∃ LL, LL = st.take m ++ D.p := ⟨_, rfl⟩
            have HTL : Hid ((st.take m).length = m) := Lib.hid (by rw [List.length_take]; have := HMN.out; omega)
            have HLN : Hid (LL.length = m + D.p.length) := Lib.hid (by rw [hLL, List.length_append, HTL.out])
            have HLL := Lib.hid hLL
            clear hLL
            have hp2 : (D.p.length : Int) ≤ 2 := by omega
            go_upto_region 10 with fail
            go_cut [15] (fun v wx => ∃ a c, v = .slice a LL.length c ∧ Hid (ReadI wx (.slice a LL.length c) LL) ∧ Hid (Below W3.heap.size W3 wx))
            case first =>
              have HKX3 : Hid (∀ w', Below W3.heap.size W3 w' → (w'.cell? ⟨X, 0, none⟩ = some (.slice ta D.t.length tc) ∧ w'.cell? ⟨X, 1, none⟩ = some (.slice ka D.p.length kc) ∧ w'.cell? ⟨X, 2, none⟩ = some (.int .i64 0)) ∧ w'.cell? ⟨w.heap.size + 2, 0, none⟩ = some (.int .i64 iop)) := Lib.hid (fun w' hb => HKX.out w' (b_call HBD.out hb))
              refine wp_region_held_drew (S := fun w' => (w'.cell? ⟨X, 0, none⟩ = some (.slice ta D.t.length tc) ∧ w'.cell? ⟨X, 1, none⟩ = some (.slice ka D.p.length kc) ∧ w'.cell? ⟨X, 2, none⟩ = some (.int .i64 0)) ∧ w'.cell? ⟨w.heap.size + 2, 0, none⟩ = some (.int .i64 iop)) (by kernel_rfl) (HKX3.out _ (b_drew (Below.refl _ _))) (fun hHeld => ?_)
              refine atI 0 ?_
              iterate 5 (refine takeN (v := ?_) rfl (by rfl) ?_ hHeld ?_; rotate_left; (focus (intro w hSw; (try dsimp only at hSw); go_simp; try (with_reducible rfl))); (try simp only [Act.put, Nat.reduceAdd, List.getElem_toArray, List.getElem_cons_succ, List.getElem_cons_zero, List.setIfInBounds_toArray, List.set_cons_zero, List.set_cons_succ]))
              refine atIo ?_
              refine wpAnyH_ready (rs := [5]) (by kernel_rfl) (by simp) (AllReadyH.cons rfl (fun K hK => ?_) AllReadyH.nil)
              go_simp
              refine hK.out _ _ (HKX3.out _ (b_alloc (b_drew (Below.refl _ _)) _)) (fun hHeld => ?_)
              clear hK K
              (try simp only [Act.put, List.getElem_toArray, List.getElem_cons_succ, List.getElem_cons_zero, List.setIfInBounds_toArray, List.set_cons_zero, List.set_cons_succ])
              refine wpAnyH_ready (rs := [6]) (by kernel_rfl) (by simp) (AllReadyH.cons rfl (fun K hK => ?_) AllReadyH.nil)
              go_simp
              refine (concat_n HTL.out rfl (readI_below (readI_take HST3.out HMN.out) (b_alloc (b_drew (Below.refl _ _)) _)) (readI_below HRP3.out (b_alloc (b_drew (Below.refl _ _)) _)) (blk_new _ _ _) (by have := HMN.out; have := HL.out; omega) (by omega)).mono ?_
              rw [← HLL.out]
              rintro e w6 ⟨a6, k6, rfl, hr6, hb6⟩
              have HR6 := Lib.hid hr6
              have HB6 := Lib.hid (b_call (b_alloc (b_drew (Below.refl W3.heap.size W3)) _) hb6)
              clear hr6 hb6
              refine hK.out _ _ (HKX3.out _ HB6.out) (fun hHeld => ?_)
              clear hK K
              (try simp only [Act.put, List.getElem_toArray, List.getElem_cons_succ, List.getElem_cons_zero, List.setIfInBounds_toArray, List.set_cons_zero, List.set_cons_succ])
              (refine wpAnyH_take (i := 7) (v := ?_) rfl (by kernel_rfl) (by kernel_rfl) (by kernel_rfl) (fun _ _ _ h => h) (Or.inl ⟨by rfl, ?_⟩) hHeld ?_; rotate_left; (focus (intro w hSw; (try dsimp only at hSw); go_simp; try (with_reducible rfl))); (try simp only [Act.put, List.getElem_toArray, List.getElem_cons_succ, List.getElem_cons_zero, List.setIfInBounds_toArray, List.set_cons_zero, List.set_cons_succ]))
              refine wpAnyH_done (by kernel_rfl) ?_ _
              go_wp2_with fail
              go_meet
              case rel => exact ⟨a6, k6, rfl, HR6, HB6⟩
            case rest =>
            obtain ⟨a6, k6, rfl, HR6, HB6⟩ := hcut
            obtain ⟨W4, hW4⟩ : ∃ W4, W4 = wc := ⟨_, rfl⟩
            subst hW4
            have HBD4 := Lib.hid (b_call HBX2.out (b_call HBD.out HB6.out))
            have HB04 := Lib.hid (b_call HB03.out HB6.out)
            by_cases h16 : 16 < m + D.p.length
            · have EE : Hid (E = bad 3) := Lib.hid (by rw [HEE2.out, if_neg (by simp), if_pos h16])
              have h17 : (16 : Int) < LL.length := by have := HLN.out; omega
              clear h16
              go_wp2_with fail
              go_ret3
              show RetD w _ _ _
              rw [EE.out]
              exact ⟨none, 0, none, 0, rfl, readI_nil _, readI_nil _, HB04.out⟩
            · have HEE3 : Hid (E = if (waysI ⟨iop, ix, ia, ib⟩ k).any (outB f) = true then bad 1 else if (waysI ⟨iop, ix, ia, ib⟩ k).any (backB f k) = true then bad 6 else ⟨LL, waysI ⟨iop, ix, ia, ib⟩ k, 0⟩) := Lib.hid (by rw [HEE2.out, if_neg (by simp), if_neg h16, HLL.out])
              have h17 : ¬ ((16 : Int) < LL.length) := by have := HLN.out; omega
              clear h16 HEE2
              obtain ⟨⟨y0, y1, y2, y3⟩, ⟨z0, z1, z2, z3⟩, ⟨x0, x1, x2, x3⟩, s0, s1, s2⟩ := HK.out W4 HBD4.out
              have HWY := Lib.hid (vways_any iop ix ia ib k (by have := HK2.out; have := HHK.out; omega) W4)
              obtain ⟨on, hon⟩ : ∃ on, on = waysI ⟨iop, ix, ia, ib⟩ k := ⟨_, rfl⟩
              rw [← hon] at HWY HEE3 HW2
              clear hon
              go_wp2_with fail
              refine HWY.out.mono ?_
              rintro e w5 ⟨oa, oc, rfl, hro, hb5⟩
              have HRO := Lib.hid hro
              have HBD5 := Lib.hid (b_call HBD4.out hb5)
              have HB05 := Lib.hid (b_call HB04.out hb5)
              have HR65 := Lib.hid (readI_below HR6.out hb5)
              have HLD := Lib.hid (vleads_any ⟨⟨pa, pn, pc⟩, ⟨la, ln, lc⟩, r, ⟨some ⟨cb, co, none⟩, f.code.length, cc⟩⟩ f k oa oc on w5 (deepF_below HF.out HB05.out) HHK.out hro HW2.out.2)
              obtain ⟨lc9, hlc⟩ : ∃ lc9, lc9 = leadM f k on := ⟨_, rfl⟩
              rw [← hlc] at HLD
              have HEL : Hid (E = if lc9 ≠ 0 then bad lc9 else ⟨LL, on, 0⟩) := Lib.hid (by
                rw [HEE3.out, hlc]; unfold leadM
                (repeat' split) <;> first | rfl | simp_all)
              clear hro hb5 y0 y1 y2 y3 z0 z1 z2 z3 x0 x1 x2 x3 s0 s1 s2 HWY hlc
              obtain ⟨⟨y0, y1, y2, y3⟩, ⟨z0, z1, z2, z3⟩, ⟨x0, x1, x2, x3⟩, s0, s1, s2⟩ := HK.out w5 HBD5.out
              go_wp2_with fail
              refine HLD.out.mono ?_
              rintro e w6 ⟨rfl, hb6⟩
              have HB06 := Lib.hid (b_call HB05.out hb6)
              have HR66 := Lib.hid (readI_below HR65.out hb6)
              have HRO6 := Lib.hid (readI_below HRO.out hb6)
              clear hb6 y0 y1 y2 y3 z0 z1 z2 z3 x0 x1 x2 x3 s0 s1 s2
              by_cases hlz : lc9 = 0
              · subst hlz
                have EE : Hid (E = ⟨LL, on, 0⟩) := Lib.hid (by rw [HEL.out]; rfl)
                go_wp2_with fail
                go_ret3
                show RetD w _ _ _
                rw [EE.out]
                exact ⟨a6, k6, oa, oc, rfl, HR66.out, HRO6.out, HB06.out⟩
              · have EE : Hid (E = bad lc9) := Lib.hid (by rw [HEL.out, if_pos hlz])
                have hln : (lc9 != 0) = true := bne_iff_ne.2 hlz
                clear hlz
                go_wp2_with fail
                go_ret3
                show RetD w _ _ _
                rw [EE.out]
                exact ⟨none, 0, none, 0, rfl, readI_nil _, readI_nil _, HB06.out⟩
end Go.Proofs.Ytdmidnmciaediaa
