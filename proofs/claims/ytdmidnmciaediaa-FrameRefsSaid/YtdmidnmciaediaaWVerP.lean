/- Layer 26: the document's going through a function: the beginning in memory. Conditions: those stated. Layer 26: the contract of the document's Function: going through one. Conditions: those stated. -/
import Derived.Test.YtdmidnmciaediaaWVerX
namespace Go.Proofs.Ytdmidnmciaediaa
section
open Go.RowKit
set_option linter.unusedVariables false
set_option linter.unusedSimpArgs false
attribute [local go_sem] over_cell over_frozen
theorem rowFctD : IsRow Try.prog 89 91 2 32 (.agg #[.bool false, .slice none 0 0]) := ⟨Try.underlying89, by kernel_rfl, by rfl⟩
theorem doc_first {w : World} {g o n : Nat} (h : DocAt w g o n (List.replicate n (false, ⟨none, 0, 0⟩)) (List.replicate n false) (List.replicate n none)) (hn : 0 < n) :
    DocAt (w.setCell ⟨g, 0, none⟩ (.bool true)) g o n ((List.replicate n (false, ⟨none, 0, 0⟩)).set 0 (true, ⟨none, 0, 0⟩)) (List.replicate n false) (start n).F := by
  have g1 : w.grownBy (w.setCell ⟨g, 0, none⟩ (.bool true)) (some g) := gb_set (gb_refl _ _) _ _ _
  have hb := blk_set h.fr 0 (.bool true)
  have e : (factE.row (List.replicate n (false, (⟨none, 0, 0⟩ : Sl)))).set 0 (.bool true) = factE.row ((List.replicate n (false, (⟨none, 0, 0⟩ : Sl))).set 0 (true, ⟨none, 0, 0⟩)) := by
    obtain ⟨m, rfl⟩ : ∃ m, n = m + 1 := ⟨n - 1, by omega⟩
    rw [List.replicate_succ]
    rfl
  rw [e] at hb
  have lg : 0 < (factE.row (List.replicate n (false, (⟨none, 0, 0⟩ : Sl)))).length := by rw [row_length, List.length_replicate]; show 0 < n * 2; omega
  have ng1 : NoInt (w.setCell ⟨g, 0, none⟩ (.bool true)) g := noInt_set h.ng h.fr lg (fun i e => by cases e)
  refine ⟨hb, blk_grown h.ob g1 (fun e => h.e3 (by injection e with e; exact e.symm)), ng1, noInt_grown h.no h.ob.1 (fun e => h.e3 e.symm) g1, h.e3, by simp, h.lo, ?_, by rw [tyB_set]; exact h.ty, fun j hj => ?_⟩
  rotate_left
  · rw [List.getElem_set]
    split
    · exact Or.inl rfl
    · simp only [List.getElem_replicate]; exact Or.inl rfl
  rw [start_eq hn]
  refine ⟨by simp, fun j hj => ?_⟩
  have hj' : j < n := by simpa using hj
  rw [List.getElem_set]
  show _ ∧ ReadI _ _ ((((List.replicate n (none : Option (List Int))).set 0 (some [])).getD j none).getD [])
  rw [getD_set _ _ _ _ _ (by simpa using hn), getD_rep]
  by_cases e : 0 = j
  · subst e
    rw [if_pos rfl, if_pos rfl]
    exact ⟨rfl, readI_nil _⟩
  · simp only [if_neg e, List.getElem_replicate]
    exact ⟨rfl, readI_nil _⟩
theorem doc_start (W : World) (n : Nat) : DocAt ((W.alloc (.cells (mkF n) 91)).alloc (.cells (mkO n) 4)) W.heap.size (W.heap.size + 1) n (List.replicate n (false, ⟨none, 0, 0⟩)) (List.replicate n false) (List.replicate n none) := by
  obtain ⟨q1, q2, q3⟩ := boxes2 W (mkF n) (mkO n) 91 4
  have n2 := noInt_new (W.alloc (.cells (mkF n) 91)) (mkO n) 4 (mkO_no n)
  rw [World.size_alloc] at n2
  rw [mkF_row] at q1
  rw [mkO_row] at q2
  refine ⟨q1, q2, noInt_below (noInt_new W (mkF n) 91 (mkF_no n)) (by simp) (b_alloc (Below.refl _ _) _), n2, by omega, by simp, by simp, ⟨by simp, fun k hk => ?_⟩, tyB_alloc (tyB_new _ _ _) _, fun k hk => by simp only [List.getElem_replicate]; exact Or.inl rfl⟩
  simp only [List.getElem_replicate]
  rw [getD_rep]
  exact ⟨rfl, readI_nil _⟩
/-- What stands at a round's beginning. -/
structure DRnd (w0 w : World) (g o n : Nat) (P : PrM) (f : FnM) (s : StM) (D : List Bool) (R : Sum (List (Option (List Int))) (Int × Int)) : Prop where
  be : Below w0.heap.size w0 w
  ck : ∃ F, DocAt w g o n F D s.F
  sm : ∀ k x, s.F.getD k none = some x → x.length ≤ 16
  r : ∃ fuel, R = runV P f fuel s ∧ mu s ≤ fuel
  rel : OpenRel s D
  lo : s.O.length = n
end
section
open Go.RowKit
set_option linter.unusedVariables false
set_option linter.unusedSimpArgs false
attribute [local go_sem] over_cell over_frozen
structure DocRow (w : World) (B g n : Nat) (F : List (Bool × Sl)) (M : List (Option (List Int))) : Prop where
  fr : Blk w g (factE.row F)
  ng : NoInt w g
  lf : F.length = n
  ok : FactsOk w F M
  lo : B ≤ g
  sm : ∀ k x, M.getD k none = some x → x.length ≤ 16
  ty : tyB w g = some DFT
  so : ∀ k, (h : k < F.length) → slOk w 3 F[k].2.a F[k].2.n
def RetFunD (w : World) (n : Nat) (R : Sum (List (Option (List Int))) (Int × Int)) (e : Ending) (w' : World) : Prop :=
  (match R with
    | .inl M => ∃ g F, e = .returned (.tuple #[.slice (some ⟨g, 0, none⟩) n n, .int .i64 0, .int .i64 0]) ∧ DocRow w' w.heap.size g n F M
    | .inr x => e = .returned (.tuple #[.slice none 0 0, .int .i64 x.1, .int .i64 x.2])) ∧ Below w.heap.size w w'
theorem eff_nn {P : PrM} {f : FnM} {k : Nat} {st : List Int} (hP : SmallP P) (hG : GoodE P f) (hk : k < f.code.length) : 0 ≤ (effect P f k st).c := by
  have hi : (codeAt f k).op < 37 := by
    unfold codeAt
    rw [show ((k : Int).toNat) = k from rfl, List.getD_eq_getElem?_getD, List.getElem?_eq_getElem hk]
    exact (hG.i _ (List.getElem_mem hk)).2.1
  have hd := (deal_bd P f (codeAt f k) st hP hi).1
  unfold effect effD
  repeat' split
  all_goals first | exact hd | decide | exact Int.le_refl _
/-- What stands between the ways on. -/
structure DLP (w0 w : World) (g o n : Nat) (s1 : StM) (D : List Bool) (E : Deal) (ba : Option Addr) (bc : Nat) (oa : Option Addr) (oc : Nat) (j : Nat) (s : StM) : Prop where
  be : Below w0.heap.size w0 w
  ck : ∃ F, DocAt w g o n F D s.F
  sm : ∀ k x, s.F.getD k none = some x → x.length ≤ 16
  me : meets s1 E.t E.p = meets s E.t (E.p.drop j)
  mu : mu s ≤ mu s1
  rt : ReadI w (.slice ba E.t.length bc) E.t
  rp : ReadI w (.slice oa E.p.length oc) E.p
  rel : OpenRel s D
  lo : s.O.length = n
  so : slOk w 3 ba E.t.length
set_option maxRecDepth 100000 in
set_option maxHeartbeats 8000000 in
theorem rfun_any (p : PrV) (P : PrM) (v : FnV) (f : FnM) (w : World) (h : ReadP w p P) (hs : SmallP P) (hf : DeepF w v f) (hsf : SmallF f) (hk0 : 0 < f.code.length) (hk2 : f.code.length ≤ 200) (hG : GoodE P f) : Calls Try.prog 73 #[aggP p, aggF v] w (RetFunD w f.code.length (funM P f)) := by
  obtain ⟨u, ⟨ga, gn, gc⟩, m0, ⟨fa, fn, fc⟩⟩ := p
  obtain ⟨⟨pa, pn, pc⟩, ⟨la, ln, lc⟩, r, ⟨ca, cn, cc⟩⟩ := v
  have HR := Lib.hid h; have HF := Lib.hid hf; have HS := Lib.hid hs; have HSF := Lib.hid hsf; have HG := Lib.hid hG
  obtain ⟨_, cap9, ec, hc1, hc2⟩ := readR_len hf.c
  have ec2 : Value.slice ca cn cc = .slice _ f.code.length cap9 := ec
  injection ec2 with ec3 ec4 ec5
  subst ec4
  clear ec3
  have HK0 := Lib.hid hk0
  have HK2 := Lib.hid hk2
  obtain ⟨R, hR⟩ : ∃ R, R = funM P f := ⟨_, rfl⟩
  have HRR := Lib.hid hR
  rw [← hR]
  have n1 : (f.code.length : Int) ≤ 200 := by omega
  have n0 : (0 : Int) < f.code.length := by omega
  have key1 : ∀ w : World, (Instr.makeSlice 89 (.int .i64 f.code.length) (.int .i64 f.code.length)).run Try.prog w = .ok (.slice (some ⟨w.heap.size, 0, none⟩) f.code.length f.code.length) (w.alloc (.cells (mkF f.code.length) 91)) := fun w => run_makeR (c := factE) rowFctD _ _ f.code.length (by omega) (by omega) w
  have key2 : ∀ w : World, (Instr.makeSlice 96 (.int .i64 f.code.length) (.int .i64 f.code.length)).run Try.prog w = .ok (.slice (some ⟨w.heap.size, 0, none⟩) f.code.length f.code.length) (w.alloc (.cells (mkO f.code.length) 4)) := fun w => run_makeR (c := bolE) rowBol _ _ f.code.length (by omega) (by omega) w
  clear h hf hs hsf hG ec hc1 hc2 ec5 hR hk0 hk2
  unfold aggP aggF Sl.v
  simp only
  go_enter Try.func73, Try.ntmps73
  go_upto_region 1 with fail
  refine wp_named ?_
  intro W hW
  obtain ⟨q1, q2, q3⟩ := boxes2 w #[.bool u, .slice ga gn gc, .int .i64 m0, .slice fa fn fc] #[.slice pa pn pc, .slice la ln lc, .int .i64 r, .slice ca f.code.length cc] 25 35
  rw [← hW] at q1 q2 q3
  have HBW := Lib.hid q3
  have HK : Hid (∀ w', Below W.heap.size W w' → (w'.cell? ⟨w.heap.size, 0, none⟩ = some (.bool u) ∧ w'.cell? ⟨w.heap.size, 1, none⟩ = some (.slice ga gn gc) ∧ w'.cell? ⟨w.heap.size, 2, none⟩ = some (.int .i64 m0) ∧ w'.cell? ⟨w.heap.size, 3, none⟩ = some (.slice fa fn fc)) ∧ (w'.cell? ⟨w.heap.size + 1, 0, none⟩ = some (.slice pa pn pc) ∧ w'.cell? ⟨w.heap.size + 1, 1, none⟩ = some (.slice la ln lc) ∧ w'.cell? ⟨w.heap.size + 1, 2, none⟩ = some (.int .i64 r) ∧ w'.cell? ⟨w.heap.size + 1, 3, none⟩ = some (.slice ca f.code.length cc))) := Lib.hid (fun w' hb => by
    obtain ⟨y0, y1, y2, y3, _⟩ := blk4 (blk_below q1 hb)
    obtain ⟨z0, z1, z2, z3, _⟩ := blk4 (blk_below q2 hb)
    exact ⟨⟨y0, y1, y2, y3⟩, ⟨z0, z1, z2, z3⟩⟩)
  have HZ : Hid (∀ w', Below W.heap.size W w' → w.heap.size < w'.heap.size ∧ w.heap.size + 1 < w'.heap.size) := Lib.hid (fun w' hb => ⟨(blk_below q1 hb).1, (blk_below q2 hb).1⟩)
  clear hW q1 q2 q3
  obtain ⟨_, _, _, _, z3⟩ := HK.out W (Below.refl _ _)
  obtain ⟨sz0, sz1⟩ := HZ.out W (Below.refl _ _)
  go_upto_region 3 with fail
  refine wp_named ?_
  intro W1 hW1
  have HD1 : Hid (DocAt W1 W.heap.size (W.heap.size + 1) f.code.length (List.replicate f.code.length (false, ⟨none, 0, 0⟩)) (List.replicate f.code.length false) (List.replicate f.code.length none)) := Lib.hid (by rw [hW1]; exact doc_start W _)
  have HB1 : Hid (Below W.heap.size W W1) := Lib.hid (by rw [hW1]; exact b_alloc (b_alloc (Below.refl _ _) _) _)
  have f0 : W1.cell? ⟨W.heap.size, 0, none⟩ = some (.bool false) := by
    have q := (fact_at HD1.out.fr (k := 0) (by simpa using HK0.out)).1
    simpa using q
  have fz := HD1.out.fr.2.2
  have fl := HD1.out.fr.1
  have DN : Hid (DRnd W (W1.setCell ⟨W.heap.size, 0, none⟩ (.bool true)) W.heap.size (W.heap.size + 1) f.code.length P f (start f.code.length) (List.replicate f.code.length false) R) := Lib.hid (by
    have q := doc_first HD1.out HK0.out
    refine ⟨b_grown HB1.out (gb_set (gb_refl _ (some W.heap.size)) _ _ _) (Nat.le_refl _), ⟨_, q⟩, ?_, ⟨2 * f.code.length, by rw [HRR.out]; rfl, ?_⟩, rel_start HK0.out, by rw [start_eq HK0.out]; simp⟩
    · intro k x hx
      rw [start_eq HK0.out] at hx
      simp only at hx
      rw [getD_set _ _ _ _ _ (by simpa using HK0.out), getD_rep] at hx
      split at hx
      · injection hx with hx; subst hx; simp
      · cases hx
    · have h1 := muF_set (List.replicate f.code.length none) 0 [] (by simpa using HK0.out) (getD_rep _ _ _)
      have h2 := muO_true (List.replicate f.code.length false) 0
      have h3 : ∀ m, muF (List.replicate m none) = 2 * m := fun m => by
        induction m with
        | zero => rfl
        | succ m ih => rw [List.replicate_succ]; simp only [muF]; omega
      have h4 : ∀ m, muO (List.replicate m false) = 0 := fun m => by
        induction m with
        | zero => rfl
        | succ m ih => rw [List.replicate_succ]; simp only [muO]; exact ih
      have h5 := h3 f.code.length
      have h6 := h4 f.code.length
      have h7 : mu (start f.code.length) = muF ((List.replicate f.code.length none).set 0 (some [])) + muO ((List.replicate f.code.length false).set 0 true) := by rw [start_eq HK0.out]; rfl
      omega)
  clear hW1
  go_upto_region 4 with fail
  refine wp_named ?_
  intro W2 hW2
  rw [← hW2] at DN
  obtain ⟨g, hg⟩ : ∃ g, g = W.heap.size := ⟨_, rfl⟩
  obtain ⟨o, ho⟩ : ∃ o, o = W.heap.size + 1 := ⟨_, rfl⟩
  rw [← ho, ← hg]
  have HRN : Hid (DRnd W W2 g o f.code.length P f (start f.code.length) (List.replicate f.code.length false) R) := by rw [ho, hg]; exact DN
  have hg1 : W.heap.size ≤ g := by omega
  have ho1 : W.heap.size ≤ o := by omega
  have HGO := Lib.hid (And.intro hg ho)
  clear DN hW2 HD1 HB1 f0 fz fl hg ho
  clear z3 sz0 sz1 key1 key2
  go_wp2_with fail
  go_loopw [9] (fun i wr => ∃ (r : Nat) (s : StM) (D : List Bool), i = .int .i64 r ∧ r ≤ f.code.length ∧ Hid (muO D = r) ∧ Hid (DRnd W wr g o f.code.length P f s D R)) (fun i _ => f.code.length - (intOf i).toNat)
  case atStart => exact ⟨0, _, _, rfl, Nat.zero_le _, Lib.hid (by
    have h4 : ∀ m, muO (List.replicate m false) = 0 := fun m => by
      induction m with
      | zero => rfl
      | succ m ih => rw [List.replicate_succ]; simp only [muO]; exact ih
    exact h4 _), HRN⟩
  case round =>
    obtain ⟨WR, hWR⟩ : ∃ x, x = wr := ⟨_, rfl⟩
    subst hWR
    obtain ⟨r', s, D, rfl, hr, HMU, hrn⟩ := hrel
    obtain ⟨F, hF⟩ := hrn.out.ck
    have HCK := Lib.hid hF
    have z3 := (HK.out WR hrn.out.be).2.2.2.2
    obtain ⟨sz0, sz1⟩ := HZ.out WR hrn.out.be
    have r0 : (0 : Int) ≤ r' := by omega
    by_cases hlt : r' < f.code.length
    · have r1 : (r' : Int) < f.code.length := by omega
      clear hF
      go_wp2_with fail
      go_loopw [10] (fun i wr => ∃ k : Nat, i = .int .i64 k ∧ k ≤ f.code.length ∧ WR = wr ∧ Hid (∀ j, j < k → s.O.getD j false = false)) (fun i _ => f.code.length - (intOf i).toNat)
      case atStart => exact ⟨0, rfl, Nat.zero_le _, rfl, Lib.hid (fun j hj => by omega)⟩
      case round =>
        obtain ⟨k, rfl, hk, rfl, hp⟩ := hrel
        have k0 : (0 : Int) ≤ k := by omega
        by_cases hkn : k < f.code.length
        · have k1 : (k : Int) < f.code.length := by omega
          have hkF : k < F.length := by rw [HCK.out.lf]; exact hkn
          have hkD : k < D.length := by rw [HCK.out.lo]; exact hkn
          have o0 := bol_at HCK.out.ob hkD
          have f0 := (fact_at HCK.out.fr hkF).1
          have q := (HCK.out.ok.2 k hkF).1
          have hrel := hrn.out.rel.o k
          have eD : D.getD k false = D[k] := by rw [List.getD_eq_getElem?_getD, List.getElem?_eq_getElem hkD]; rfl
          rw [eD] at hrel
          rw [q] at f0
          have HQ := Lib.hid (And.intro hrel eD)
          have gl := HCK.out.fr.1
          have ol := HCK.out.ob.1
          generalize D[k] = dk at *
          generalize (s.F.getD k none).isSome = mk at *
          clear q eD hrel
          cases dk
          · cases mk
            · go_wp2_with fail
              go_roundw
              case rel => exact ⟨k + 1, by first | rfl | go_num, by omega, by first | trivial | rfl, Lib.hid (fun j hj => by
                rcases Nat.lt_or_ge j k with q | q
                · exact hp.out j q
                · have e : j = k := by omega
                  rw [e]; exact HQ.out.1)⟩
              case measure => simp [intOf]; omega
            · have kne : ¬ ((k : Int) = f.code.length) := by omega
              have HFT : Hid (firstT s.O = some k) := Lib.hid (first_take s.O k (by rw [hrn.out.lo]; exact hkn) hp.out HQ.out.1)
              obtain ⟨fuel, hfu, hfm⟩ := hrn.out.r
              obtain ⟨n, hn1, hn2, hn3⟩ := run_step (P := P) (f := f) HFT.out hfm
              have HRUN := Lib.hid (hfu.trans hn3)
              have HMUn := Lib.hid hn2
              have HCL := Lib.hid (doc_done HCK.out hkn)
              have HREL := Lib.hid (rel_done hrn.out.rel (by rw [hrn.out.lo]; exact hkn) hkD HQ.out.1)
              have HMU1 : Hid (muO (D.set k true) = r' + 1) := Lib.hid (by rw [muO_set D k hkD HQ.out.2, HMU.out])
              have oz := HCK.out.ob.2.2
              have HBE : Hid (Below W.heap.size W (WR.setCell ⟨o, k, none⟩ (.bool true))) := Lib.hid (b_grown hrn.out.be (gb_set (gb_refl _ (some o)) _ _ _) ho1)
              have HKF := Lib.hid hkF
              have HKLT := Lib.hid hkn
              have HSM := Lib.hid hrn.out.sm
              clear hfu hfm hn1 hn2 hn3 hkD hkF hkn
              obtain ⟨W3, hW3⟩ : ∃ W3, W3 = WR.setCell ⟨o, k, none⟩ (.bool true) := ⟨_, rfl⟩
              have HW3 := Lib.hid hW3
              rw [← hW3] at HCL HBE
              clear hW3
              obtain ⟨KD, hKD⟩ : ∃ KD, KD = (s.F.getD k none).getD [] := ⟨_, rfl⟩
              have HKD16 : Hid (KD.length ≤ 16) := Lib.hid (by
                rw [hKD]
                cases hx : s.F.getD k none with
                | none => simp
                | some x => exact HSM.out k x hx)
              rw [← hKD] at HRUN
              have hd2 := (HCL.out.ok.2 k HKF.out).2
              rw [← hKD] at hd2
              obtain ⟨da, dc, edc, hrd, _, _⟩ := readI_row hd2
              have fa1 := (fact_at HCL.out.fr HKF.out).2
              have edc2 : Value.slice F[k].2.a F[k].2.n F[k].2.c = .slice da KD.length dc := edc
              replace fa1 := fa1.trans (congrArg some edc2)
              have HRD := Lib.hid hrd
              have HS3 : Hid (∀ w', Below W3.heap.size W3 w' → (w'.cell? ⟨w.heap.size, 0, none⟩ = some (.bool u) ∧ w'.cell? ⟨w.heap.size, 1, none⟩ = some (.slice ga gn gc) ∧ w'.cell? ⟨w.heap.size, 2, none⟩ = some (.int .i64 m0) ∧ w'.cell? ⟨w.heap.size, 3, none⟩ = some (.slice fa fn fc)) ∧ (w'.cell? ⟨w.heap.size + 1, 0, none⟩ = some (.slice pa pn pc) ∧ w'.cell? ⟨w.heap.size + 1, 1, none⟩ = some (.slice la ln lc) ∧ w'.cell? ⟨w.heap.size + 1, 2, none⟩ = some (.int .i64 r) ∧ w'.cell? ⟨w.heap.size + 1, 3, none⟩ = some (.slice ca f.code.length cc)) ∧ w'.cell? ⟨g, k * 2 + 1, none⟩ = some (.slice da KD.length dc)) := Lib.hid (fun w' hb => by
                obtain ⟨a1, a2⟩ := HK.out w' (b_call HBE.out hb)
                exact ⟨a1, a2, ((bcell hb).1 _ _ HCL.out.fr.1).trans fa1⟩)
              clear hKD hd2 edc edc2 hrd fa1
              go_upto_region 12 with fail
              refine wp_named ?_
              intro W3' hW3'
              obtain rfl : W3' = W3 := hW3'.trans HW3.out.symm
              clear hW3' o0 oz ol gl f0 z3 sz0 sz1
              refine wp_region_held_drew (S := fun w' => (w'.cell? ⟨w.heap.size, 0, none⟩ = some (.bool u) ∧ w'.cell? ⟨w.heap.size, 1, none⟩ = some (.slice ga gn gc) ∧ w'.cell? ⟨w.heap.size, 2, none⟩ = some (.int .i64 m0) ∧ w'.cell? ⟨w.heap.size, 3, none⟩ = some (.slice fa fn fc)) ∧ (w'.cell? ⟨w.heap.size + 1, 0, none⟩ = some (.slice pa pn pc) ∧ w'.cell? ⟨w.heap.size + 1, 1, none⟩ = some (.slice la ln lc) ∧ w'.cell? ⟨w.heap.size + 1, 2, none⟩ = some (.int .i64 r) ∧ w'.cell? ⟨w.heap.size + 1, 3, none⟩ = some (.slice ca f.code.length cc)) ∧ w'.cell? ⟨g, k * 2 + 1, none⟩ = some (.slice da KD.length dc)) (by kernel_rfl) (HS3.out _ (b_drew (Below.refl _ _))) (fun hHeld => ?_)
              refine atI 0 ?_
              iterate 8 (refine takeN (v := ?_) rfl (by rfl) ?_ hHeld ?_; rotate_left; (focus (intro w hSw; (try dsimp only at hSw); go_simp; try (with_reducible rfl))); (try simp only [Act.put, Nat.reduceAdd, List.getElem_toArray, List.getElem_cons_succ, List.getElem_cons_zero, List.setIfInBounds_toArray, List.set_cons_zero, List.set_cons_succ]))
              refine atIo ?_
              refine wpAnyH_ready (rs := [8]) (by kernel_rfl) (by simp) (AllReadyH.cons rfl (fun K hK => ?_) AllReadyH.nil)
              go_simp
              refine (reff_any ⟨u, ⟨ga, gn, gc⟩, m0, ⟨fa, fn, fc⟩⟩ P ⟨⟨pa, pn, pc⟩, ⟨la, ln, lc⟩, r, ⟨ca, f.code.length, cc⟩⟩ f k da dc KD _ (readP_below HR.out (b_drew (b_call HBW.out HBE.out))) HS.out (deepF_below HF.out (b_drew (b_call HBW.out HBE.out))) HSF.out (readI_below HRD.out (b_drew (Below.refl _ _))) (by have := HKD16.out; omega) HKLT.out HK2.out HG.out).mono ?_
              have HEO := Lib.hid (eff_on (P := P) (f := f) (k := k) (st := KD) HG.out HKLT.out)
              have HNN := Lib.hid (eff_nn (k := k) (st := KD) HS.out HG.out HKLT.out)
              generalize effect P f k KD = E at *
              rintro e w4 ⟨ba, bc, oa, oc, rfl, hrt, hrp, hb4, hok4⟩
              have HB4 := Lib.hid (b_call (b_drew (Below.refl W3'.heap.size W3')) hb4)
              have HRT := Lib.hid hrt; have HRP := Lib.hid hrp; have HOK4 := Lib.hid hok4
              clear hrt hrp hb4 hok4
              refine hK.out _ _ (HS3.out _ HB4.out) (fun hHeld => ?_)
              clear hK K
              (try simp only [Act.put, List.getElem_toArray, List.getElem_cons_succ, List.getElem_cons_zero, List.setIfInBounds_toArray, List.set_cons_zero, List.set_cons_succ])
              refine atI 9 ?_
              iterate 7 (refine takeN (v := ?_) rfl (by rfl) ?_ hHeld ?_; rotate_left; (focus (intro w hSw; (try dsimp only at hSw); go_simp; try (with_reducible rfl))); (try simp only [Act.put, Nat.reduceAdd, List.getElem_toArray, List.getElem_cons_succ, List.getElem_cons_zero, List.setIfInBounds_toArray, List.set_cons_zero, List.set_cons_succ]))
              refine atIo ?_
              refine wpAnyH_done (by kernel_rfl) ?_ _
              have HB04 := Lib.hid (b_call HBE.out HB4.out)
              by_cases hc : E.c = 0
              case neg =>
                have hcp : (0 : Int) < E.c := by have := HNN.out; omega
                have HRE : Hid (R = .inr ((k : Int), E.c)) := Lib.hid (by rw [HRUN.out, if_pos hc])
                clear hc
                go_wp2_with fail
                go_ret3
                show RetFunD w f.code.length R _ _
                rw [HRE.out]
                exact ⟨rfl, b_call HBW.out HB04.out⟩
              case pos =>
                obtain ⟨HE1, HE2, HE3⟩ := HEO.out hc
                have HEP := Lib.hid HE1
                have HET := Lib.hid HE2
                have hp2 : (E.p.length : Int) ≤ 2 := by omega
                have HRUN2 : Hid (R = match meets ⟨s.F, s.O.set k false⟩ E.t E.p with | .inr j => .inr (j, 4) | .inl s' => runV P f n s') := Lib.hid (HRUN.out.trans (if_neg (show ¬ (E.c ≠ 0) from fun z => z hc)))
                have HLP : Hid (DLP W w4 g o f.code.length ⟨s.F, s.O.set k false⟩ (D.set k true) E ba bc oa oc 0 ⟨s.F, s.O.set k false⟩) := Lib.hid ⟨HB04.out, ⟨F, docAt_below HCL.out HB4.out⟩, HSM.out, by rw [List.drop_zero], Nat.le_refl _, HRT.out, HRP.out, HREL.out, by show (s.O.set k false).length = _; rw [List.length_set]; exact hrn.out.lo, HOK4.out⟩
                clear HE1 HE2 HE3 HEO
                rw [hc]
                clear hc
                go_wp2_with fail
                go_loopw [82] (fun i w5 => ∃ (j : Nat) (s' : StM), i = .int .i64 j ∧ j ≤ E.p.length ∧ Hid (DLP W w5 g o f.code.length ⟨s.F, s.O.set k false⟩ (D.set k true) E ba bc oa oc j s')) (fun i _ => E.p.length - (intOf i).toNat)
                case atStart => exact ⟨0, _, rfl, Nat.zero_le _, HLP⟩
                case round =>
                  obtain ⟨j, s', rfl, hj, hlp⟩ := hrel
                  obtain ⟨F', hF'⟩ := hlp.out.ck
                  have HCK' := Lib.hid hF'
                  have j0 : (0 : Int) ≤ j := by omega
                  by_cases hlt2 : j < E.p.length
                  · obtain ⟨bl, off, cp, e1, r1, r2, hbl, r4⟩ := readI_pos hlp.out.rp (by omega)
                    injection e1 with e1 _ e3
                    subst e1
                    have j1 : (j : Int) < E.p.length := by omega
                    have hcx := r4 j hlt2
                    rw [List.getD_eq_getElem?_getD, List.getElem?_eq_getElem hlt2, Option.getD_some] at hcx
                    obtain ⟨xx0, xx1⟩ := HEP.out _ (List.getElem_mem hlt2)
                    have HDR : Hid (E.p.drop j = E.p[j] :: E.p.drop (j + 1)) := Lib.hid (List.drop_eq_getElem_cons hlt2)
                    generalize E.p[j] = xi at *
                    obtain ⟨x, rfl⟩ : ∃ x : Nat, xi = x := ⟨xi.toNat, by omega⟩
                    have hx : x < f.code.length := by omega
                    have HX := Lib.hid hx
                    have HFL := Lib.hid (show mu (meetM s' x E.t).2 ≤ mu s' ∧ (meetM s' x E.t).2.F.length = s'.F.length ∧ (meetM s' x E.t).2.O.length = s'.O.length from meet_mu (by rw [← hF'.ok.1, hF'.lf]; exact hx))
                    have hxF : x < F'.length := by rw [hF'.lf]; exact hx
                    have HXS : Hid (x < s'.F.length) := Lib.hid (by rw [← hF'.ok.1]; exact hxF)
                    obtain ⟨q1, q2⟩ := hF'.ok.2 x hxF
                    obtain ⟨f0, f1⟩ := fact_at hF'.fr hxF
                    have gl := hF'.fr.1
                    have gz := hF'.fr.2.2
                    have x0 : (0 : Int) ≤ x := by omega
                    have x1 : (x : Int) < f.code.length := by omega
                    generalize F'[x] = fx at *
                    obtain ⟨fb, fka, fkn, fkc⟩ := fx
                    simp only at q1 q2 f0 f1
                    clear r4 e3 xx0 xx1 hx hxF
                    cases hm : s'.F.getD x none with
                    | some y =>
                      rw [hm] at q1 q2
                      have HM : Hid (meetM s' x E.t = (decide (y = E.t), s')) := Lib.hid (by unfold meetM; rw [hm])
                      obtain ⟨ka, kc, ekc, hkd, _, _⟩ := readI_row q2
                      have ekc2 : Value.slice fka fkn fkc = .slice ka y.length kc := ekc
                      replace f1 := f1.trans (congrArg some ekc2)
                      have q1' : fb = true := q1
                      subst q1'
                      have HMC := Lib.hid (rsame_any (.slice ka y.length kc) (.slice ba E.t.length bc) y E.t wr hkd hlp.out.rt (by have := hlp.out.sm x y hm; omega) (by have := HET.out; omega))
                      have HSS : Hid (y = E.t → s'.F.set x (some E.t) = s'.F) := Lib.hid (fun e => set_same _ _ _ none HXS.out (by rw [hm, e]))
                      clear hm hF' ekc ekc2 q1 q2 hkd
                      by_cases hy : y = E.t
                      · rw [decide_eq_true hy] at HMC
                        have HM2 : Hid (meetM s' x E.t = (true, s')) := Lib.hid (by rw [HM.out, decide_eq_true hy])
                        have HS2 := Lib.hid (HSS.out hy)
                        clear hy
                        go_wp2_with fail
                        refine HMC.out.mono ?_
                        rintro e w6 ⟨rfl, hb6⟩
                        have HLP6 : Hid (DLP W (w6.setCells g (x * 2) [.bool true, .slice ba E.t.length bc]) g o f.code.length ⟨s.F, s.O.set k false⟩ (D.set k true) E ba bc (some ⟨bl, off, none⟩) oc (j + 1) s') := Lib.hid (by
                          obtain ⟨d1, d2⟩ := doc_set (st := E.t) (sa := ba) (sc := bc) (docAt_below HCK'.out hb6) HX.out (readI_below hlp.out.rt hb6) (slOk_below hlp.out.so hb6)
                          rw [HS2.out] at d1
                          refine ⟨b_grown (b_call hlp.out.be hb6) (gb_sets _ _ (gb_refl _ (some g))) hg1, ⟨_, d1⟩, hlp.out.sm, ?_, hlp.out.mu, d2 _ _ (readI_below hlp.out.rt hb6), d2 _ _ (readI_below hlp.out.rp hb6), hlp.out.rel, hlp.out.lo, slOk_keep (slOk_below hlp.out.so hb6) (fun b hb => by rw [tyB_sets]; exact hb)⟩
                          rw [hlp.out.me, HDR.out, meets]
                          rw [show ((x : Int).toNat) = x from rfl, HM2.out]
                          rfl)
                        have f0' := ((bcell hb6).1 _ _ gl).trans f0
                        have f1' := ((bcell hb6).1 _ _ gl).trans f1
                        have gz' : ∀ i, w6.frozen? ⟨g, i, none⟩ = false := fun i => ((bcell hb6).2 _ _ gl).trans (gz i)
                        have gl' : g < w6.heap.size := Nat.lt_of_lt_of_le gl hb6.size
                        clear hb6 f0 f1 gl gz
                        go_wp2_with fail
                        go_roundw
                        case rel => exact ⟨j + 1, s', by first | rfl | go_num, by omega, HLP6⟩
                        case measure => simp [intOf]; omega
                      · rw [decide_eq_false hy] at HMC
                        have HRE : Hid (R = .inr ((x : Int), 4)) := Lib.hid (by
                          rw [HRUN2.out, hlp.out.me, HDR.out, meets]
                          rw [show ((x : Int).toNat) = x from rfl, HM.out, decide_eq_false hy]
                          rfl)
                        clear hy
                        go_wp2_with fail
                        refine HMC.out.mono ?_
                        rintro e w6 ⟨rfl, hb6⟩
                        have HBZ := Lib.hid (b_call hlp.out.be hb6)
                        clear hb6
                        go_wp2_with fail
                        go_ret3
                        show RetFunD w f.code.length R _ _
                        rw [HRE.out]
                        exact ⟨rfl, b_call HBW.out HBZ.out⟩
                    | none =>
                      rw [hm] at q1
                      have q1' : fb = false := q1
                      subst q1'
                      have HM : Hid (meetM s' x E.t = (true, ⟨s'.F.set x (some E.t), s'.O.set x true⟩)) := Lib.hid (by unfold meetM; rw [hm])
                      have HLP6 : Hid (DLP W (wr.setCells g (x * 2) [.bool true, .slice ba E.t.length bc]) g o f.code.length ⟨s.F, s.O.set k false⟩ (D.set k true) E ba bc (some ⟨bl, off, none⟩) oc (j + 1) ⟨s'.F.set x (some E.t), s'.O.set x true⟩) := Lib.hid (by
                        have hmm := meet_sm (s := s') (k := x) (st := E.t) hlp.out.sm HET.out
                        have hfl := HFL.out.1
                        rw [HM.out] at hmm hfl
                        obtain ⟨d1, d2⟩ := doc_set (st := E.t) (sa := ba) (sc := bc) HCK'.out HX.out hlp.out.rt hlp.out.so
                        refine ⟨b_grown hlp.out.be (gb_sets _ _ (gb_refl _ (some g))) hg1, ⟨_, d1⟩, hmm, ?_, Nat.le_trans hfl hlp.out.mu, d2 _ _ hlp.out.rt, d2 _ _ hlp.out.rp, rel_new hlp.out.rel HXS.out (by rw [hlp.out.lo, ← HCK'.out.ok.1, HCK'.out.lf]) hm, by show (s'.O.set x true).length = _; rw [List.length_set]; exact hlp.out.lo, slOk_keep hlp.out.so (fun b hb => by rw [tyB_sets]; exact hb)⟩
                        rw [hlp.out.me, HDR.out, meets]
                        rw [show ((x : Int).toNat) = x from rfl, HM.out]
                        rfl)
                      clear hm hF' q1 q2
                      go_wp2_with fail
                      go_roundw
                      case rel => exact ⟨j + 1, _, by first | rfl | go_num, by omega, HLP6⟩
                      case measure => simp [intOf]; omega
                  · have j1 : ¬ ((j : Int) < E.p.length) := by omega
                    have HME : Hid (meets ⟨s.F, s.O.set k false⟩ E.t E.p = .inl s') := Lib.hid (by rw [hlp.out.me, List.drop_of_length_le (by omega)]; rfl)
                    clear hF'
                    go_wp2_with fail
                    go_roundw
                    case rel => exact ⟨r' + 1, s', D.set k true, by first | rfl | go_num, by omega, HMU1, Lib.hid ⟨hlp.out.be, ⟨F', HCK'.out⟩, hlp.out.sm, ⟨n, by rw [HRUN2.out, HME.out], Nat.le_trans hlp.out.mu HMUn.out⟩, hlp.out.rel, hlp.out.lo⟩⟩
                    case measure => simp [intOf]; omega
          · go_wp2_with fail
            go_roundw
            case rel => exact ⟨k + 1, by first | rfl | go_num, by omega, by first | trivial | rfl, Lib.hid (fun j hj => by
              rcases Nat.lt_or_ge j k with q | q
              · exact hp.out j q
              · have e : j = k := by omega
                rw [e, HQ.out.1]; simp)⟩
            case measure => simp [intOf]; omega
        · have hke : k = f.code.length := by omega
          have HNO : Hid (firstT s.O = none) := Lib.hid (first_no _ (fun j hj => hp.out j (by rw [hrn.out.lo] at hj; omega)))
          have HRM : Hid (R = .inl s.F) := Lib.hid (by obtain ⟨fuel, e, _⟩ := hrn.out.r; rw [e]; exact runV_stop HNO.out fuel)
          subst hke
          clear hkn
          go_wp2_with fail
          go_ret3
          show RetFunD w f.code.length R _ _
          rw [HRM.out]
          exact ⟨⟨g, F, rfl, HCK.out.fr, HCK.out.ng, HCK.out.lf, HCK.out.ok, Nat.le_trans HBW.out.size hg1, hrn.out.sm, HCK.out.ty, HCK.out.so⟩, b_call HBW.out hrn.out.be⟩
    · have r1 : ¬ ((r' : Int) < f.code.length) := by omega
      have HNO : Hid (firstT s.O = none) := Lib.hid (first_no _ (fun j hj => by
        have hl : muO D = D.length := by rw [HMU.out, HCK.out.lo]; omega
        have e := muO_all D hl j (by rw [HCK.out.lo]; rw [hrn.out.lo] at hj; exact hj)
        rw [hrn.out.rel.o j, e]; simp))
      have HRM : Hid (R = .inl s.F) := Lib.hid (by obtain ⟨fuel, e, _⟩ := hrn.out.r; rw [e]; exact runV_stop HNO.out fuel)
      clear hF
      go_wp2_with fail
      go_ret3
      show RetFunD w f.code.length R _ _
      rw [HRM.out]
      exact ⟨⟨g, F, rfl, HCK.out.fr, HCK.out.ng, HCK.out.lf, HCK.out.ok, Nat.le_trans HBW.out.size hg1, hrn.out.sm, HCK.out.ty, HCK.out.so⟩, b_call HBW.out hrn.out.be⟩
end
end Go.Proofs.Ytdmidnmciaediaa
