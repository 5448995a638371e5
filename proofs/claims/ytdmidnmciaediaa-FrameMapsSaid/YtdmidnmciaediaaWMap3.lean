/- Layer 27: the contracts of maps.Of, of the law's cut and ours; a checked program's facts as rows. Conditions: what is asked reads as lists, and is not too great. -/
import Derived.Test.YtdmidnmciaediaaWMap1
import Derived.Test.YtdmidnmciaediaaWVerR
namespace Go.Proofs.Ytdmidnmciaediaa
open Go.RowKit
set_option linter.unusedVariables false
set_option linter.unusedSimpArgs false
attribute [local go_sem] over_cell over_frozen
theorem then_named {K : Act → World → Prop} {Q : Exit → Act → World → Prop} {a : Act} {w : World} (h : ∀ w1, w1 = w → Exit.then K Q Exit.normal a w1) : Exit.then K Q Exit.normal a w := h w rfl
theorem met_true {P : PrM} {Fx : FxM} {f a : Int} (h : metB P Fx f a = true) : ∃ i j : Nat, f = i ∧ a = j ∧ ∃ (_ : i < P.fs.length) (_ : i < Fx.length), j < (P.fs.getD i fzM).code.length ∧ j < (Fx.getD i []).length := by
  unfold metB at h
  split at h
  · rename_i q
    obtain ⟨q1, q2, q3, q4, q5, q6⟩ := q
    exact ⟨f.toNat, a.toNat, by omega, by omega, by omega, by omega, by omega, by omega⟩
  · cases h
theorem m_store4 {w W : World} {x y z u : Value} {T : TypeId} {c0 : Array Value} (hw : c0.size = 4) (h : W = ((((w.alloc (.cells c0 T)).setCell ⟨w.heap.size, 0, none⟩ x).setCell ⟨w.heap.size, 1, none⟩ y).setCell ⟨w.heap.size, 2, none⟩ z).setCell ⟨w.heap.size, 3, none⟩ u) : Blk W w.heap.size [x, y, z, u] ∧ Below w.heap.size w W := by
  match c0, hw with
  | ⟨[a, b, c, d]⟩, _ =>
    subst h
    have h0 := blk_new w ⟨[a, b, c, d]⟩ T
    have h1 := blk_set (blk_set (blk_set (blk_set h0 0 x) 1 y) 2 z) 3 u
    exact ⟨h1, b_set (b_set (b_set (b_set (b_alloc (Below.refl _ _) _) (p := ⟨w.heap.size, 0, none⟩) (Nat.le_refl _) _) (p := ⟨w.heap.size, 1, none⟩) (Nat.le_refl _) _) (p := ⟨w.heap.size, 2, none⟩) (Nat.le_refl _) _) (p := ⟨w.heap.size, 3, none⟩) (Nat.le_refl _) _⟩
def RetOf (w : World) (P : PrM) (Fx : FxM) (f a : Int) (e : Ending) (w' : World) : Prop :=
  (if metB P Fx f a = true then ∃ s t : Sl, e = .returned (.tuple #[.agg #[.slice s.a s.n s.c, .slice t.a t.n t.c], .bool true]) ∧ ReadI w' s.v (refsL ((P.fs.getD f.toNat fzM).ps ++ (P.fs.getD f.toNat fzM).ls)) ∧ ReadI w' t.v (refsL (factM Fx f.toNat a.toNat).2)
   else e = .returned (.tuple #[.agg #[.slice none 0 0, .slice none 0 0], .bool false])) ∧ Below w.heap.size w w'
/-- As RetOf; both rows were laid by the call itself. -/
def RetOf2 (w : World) (P : PrM) (Fx : FxM) (f a : Int) (e : Ending) (w' : World) : Prop :=
  (if metB P Fx f a = true then ∃ s t : Sl, e = .returned (.tuple #[.agg #[.slice s.a s.n s.c, .slice t.a t.n t.c], .bool true]) ∧ ReadI w' s.v (refsL ((P.fs.getD f.toNat fzM).ps ++ (P.fs.getD f.toNat fzM).ls)) ∧ ReadI w' t.v (refsL (factM Fx f.toNat a.toNat).2) ∧ (∀ k, s.v.ownBlock = some k → w.heap.size ≤ k) ∧ (∀ k, t.v.ownBlock = some k → w.heap.size ≤ k)
   else e = .returned (.tuple #[.agg #[.slice none 0 0, .slice none 0 0], .bool false])) ∧ Below w.heap.size w w'
set_option maxRecDepth 100000 in
set_option maxHeartbeats 2000000 in
theorem mof_own (p : PrV) (P : PrM) (v : Value) (Fx : FxM) (f a : Int) (w : World) (h : ReadP w p P) (hP : SmallP P) (hf : FacR w v Fx) (hl : ∀ i j, (factM Fx i j).2.length ≤ 17592186044415) : Calls Try.prog 53 #[aggP p, v, .int .i64 f, .int .i64 a] w (RetOf2 w P Fx f a) := by
  obtain ⟨va, vc, rfl, m2, m3⟩ := facR_form hf
  have HV := Lib.hid (fun w' (hb : Below w.heap.size w w') => vfact_any p P (.slice va Fx.length vc) Fx f a w' (readP_below h hb) (facR_below hf hb))
  obtain ⟨n1, n2, n3⟩ := fn_len h
  have HR := Lib.hid h; have HSP := Lib.hid hP; have HLK := Lib.hid hl
  obtain ⟨B, hB⟩ : ∃ B, B = metB P Fx f a := ⟨_, rfl⟩
  have HBB := Lib.hid hB
  obtain ⟨u, ⟨ga, gn, gc⟩, m0, ⟨fa, fn, fc⟩⟩ := p
  simp only at n1 n2 n3
  subst n1
  clear h hf hP hl hB m2 m3
  unfold aggP Sl.v at *
  simp only at *
  have HB0 : Hid (∀ W, W = (w.alloc (.cells #[.bool u, .slice ga gn gc, .int .i64 m0, .slice fa P.fs.length fc] 31)).alloc (.cells #[.slice none 0 0, .slice none 0 0] 110) → Blk W w.heap.size [.bool u, .slice ga gn gc, .int .i64 m0, .slice fa P.fs.length fc] ∧ Blk W (w.heap.size + 1) [.slice none 0 0, .slice none 0 0] ∧ Below w.heap.size w W) := Lib.hid (fun W e => by subst e; exact boxes2 w #[.bool u, .slice ga gn gc, .int .i64 m0, .slice fa P.fs.length fc] #[.slice none 0 0, .slice none 0 0] 31 110)
  go_enter Try.func53, Try.ntmps53
  go_upto_region 1 with fail
  refine wp_named ?_
  intro W hW
  obtain ⟨q1, q2, q3⟩ := HB0.out W hW
  have Q1 := Lib.hid q1; have Q2 := Lib.hid q2; have Q3 := Lib.hid q3
  obtain ⟨y0, y1, y2, y3, _⟩ := blk4 q1
  have sz0 := q1.1
  clear hW q1 q2 q3 HB0
  go_wp2_with fail
  refine (HV.out W Q3.out).mono ?_
  rintro e w1 ⟨t, ⟨sa, sn, sc⟩, he, hk, hb1⟩
  rw [← HBB.out] at he hk
  subst he
  simp only
  have HK := Lib.hid hk
  have HB1 := Lib.hid (b_call Q3.out hb1)
  have Q11 := Lib.hid (blk_below Q1.out hb1); have Q21 := Lib.hid (blk_below Q2.out hb1)
  clear hk hb1 y0 y1 y2 y3 sz0
  go_upto_region 2 with fail
  refine wp_named ?_
  intro W2 hW2
  have S2 : Blk W2 w1.heap.size [.bool t, .slice sa sn sc] ∧ Below w1.heap.size w1 W2 := by
    first
    | (rw [hW2]; exact ⟨blk_new _ _ _, b_alloc (Below.refl _ _) _⟩)
    | exact store2 rfl hW2
  have HB2 := Lib.hid (b_call HB1.out S2.2)
  have R1 := Lib.hid (blk_below Q11.out S2.2); have R2 := Lib.hid (blk_below Q21.out S2.2); have R3 := Lib.hid S2.1
  have HS2 := Lib.hid S2.2
  clear hW2 S2
  cases B with
  | false =>
    obtain ⟨z0, z1, zf⟩ := blk2 R2.out
    have sz1 := R2.out.1
    go_wp2_with fail
    exact bodyPost_ret (v := .tuple #[.agg #[.slice none 0 0, .slice none 0 0], .bool false]) (by simp [results, Try.results53, go_sem, z0, z1]) rfl (by
      refine ⟨?_, b_grown HB2.out (gb_set (gb_set (gb_refl _ (some (w.heap.size + 1))) _ _ _) _ _ _) (by omega)⟩
      rw [if_neg (by rw [← HBB.out]; decide)])
  | true =>
    obtain ⟨i, j, rfl, rfl, hi, hx, hj1, hj2⟩ := met_true HBB.out.symm
    obtain ⟨b2, o2, ea, hb2, ⟨⟨pa, pn, pc⟩, ⟨la, ln, lc⟩, r, ⟨ca, cn, cc⟩⟩, hd, e0, e1, e2, e3⟩ := fn_at HR.out hi
    have hgP : P.fs.getD i fzM = P.fs[i] := getD_at hi _
    have hsm := HSP.out.a _ (List.getElem_mem hi)
    have hvr := hd.r
    simp only at ea e0 e1 e2 e3 hvr
    rw [← hvr] at e2
    subst ea
    have HGP := Lib.hid hgP; have HSM := Lib.hid hsm; have HD := Lib.hid hd
    have d0 := ((bcell HB2.out).1 _ _ hb2).trans e0
    have d1 := ((bcell HB2.out).1 _ _ hb2).trans e1
    have d2 := ((bcell HB2.out).1 _ _ hb2).trans e2
    have d3 := ((bcell HB2.out).1 _ _ hb2).trans e3
    have dz := Nat.lt_of_lt_of_le hb2 HB2.out.size
    obtain ⟨y0, y1, y2, y3, _⟩ := blk4 R1.out
    have sz0 := R1.out.1
    have i0 : (0 : Int) ≤ i := by omega
    have i1 : (i : Int) < P.fs.length := by omega
    have ic : (i : Int) < fc := by omega
    clear hgP hsm hvr hd e0 e1 e2 e3 hb2
    go_upto_region 5 with fail
    refine wp_named ?_
    intro W4 hW4
    have S4 : Blk W4 W2.heap.size [.slice pa pn pc, .slice la ln lc, .int .i64 r, .slice ca cn cc] ∧ Below W2.heap.size W2 W4 := by
      first
      | (rw [hW4]; exact ⟨blk_new _ _ _, b_alloc (Below.refl _ _) _⟩)
      | exact m_store4 rfl hW4
    have HB4 := Lib.hid (b_call HB2.out S4.2)
    have T2 := Lib.hid (blk_below R2.out S4.2); have T3 := Lib.hid (blk_below R3.out S4.2); have T4 := Lib.hid S4.1
    have HB14 := Lib.hid (b_call HS2.out S4.2)
    clear hW4 S4 d0 d1 d2 d3 dz y0 y1 y2 y3 sz0
    have HS : Hid (∀ w', Blk w' W2.heap.size [.slice pa pn pc, .slice la ln lc, .int .i64 r, .slice ca cn cc] → Blk w' w1.heap.size [.bool t, .slice sa sn sc] → (w'.cell? ⟨W2.heap.size, 0, none⟩ = some (.slice pa pn pc) ∧ w'.cell? ⟨W2.heap.size, 1, none⟩ = some (.slice la ln lc)) ∧ w'.cell? ⟨w1.heap.size, 1, none⟩ = some (.slice sa sn sc)) := Lib.hid (fun w' h1 h2 => by
      obtain ⟨a0, a1, _⟩ := blk4 h1
      obtain ⟨_, b1, _⟩ := blk2 h2
      exact ⟨⟨a0, a1⟩, b1⟩)
    have hne1 : w.heap.size + 1 ≠ W2.heap.size := by have := R2.out.1; omega
    have hne2 : w.heap.size + 1 ≠ w1.heap.size := by have := Q21.out.1; omega
    obtain ⟨pl1, pl2, pl3⟩ := int_len HD.out.p
    obtain ⟨ll1, ll2, ll3⟩ := int_len HD.out.l
    simp only at pl1 pl2 pl3 ll1 ll2 ll3
    obtain ⟨XS, hXS⟩ : ∃ XS, XS = P.fs[i].ps ++ P.fs[i].ls := ⟨_, rfl⟩
    have HXS := Lib.hid hXS
    have HXL : Hid (XS.length ≤ 17592186044415) := Lib.hid (by rw [hXS, List.length_append]; have := HSM.out.p; have := HSM.out.l; omega)
    have HC : Hid (∀ w' r, Below w.heap.size w w' → Blk w' r [.slice pa pn pc, .slice la ln lc] → Calls Try.prog 89 #[.slice (some ⟨r, 0, none⟩) 2 2] w' (RetI w' XS)) := Lib.hid (fun w' r hb hr => by
      rw [hXS]
      exact concat_n pl1.symm ll1.symm (readI_below HD.out.p hb) (readI_below HD.out.l hb) hr (by have := HSM.out.p; omega) (by have := HSM.out.l; omega))
    obtain ⟨RA, hRA⟩ : ∃ RA, RA = refsL XS := ⟨_, rfl⟩
    obtain ⟨KS, hKS⟩ : ∃ KS, KS = (factM Fx i j).2 := ⟨_, rfl⟩
    obtain ⟨RB, hRB⟩ : ∃ RB, RB = refsL KS := ⟨_, rfl⟩
    have HRA := Lib.hid hRA; have HRB := Lib.hid hRB; have HKS := Lib.hid hKS
    have hk1 : ReadI w1 (.slice sa sn sc) KS := by rw [hKS]; exact HK.out rfl
    have HK1 := Lib.hid hk1
    have HKL : Hid (KS.length ≤ 17592186044415) := Lib.hid (by rw [hKS]; exact HLK.out i j)
    clear hXS hRA hKS hRB hk1 pl1 pl2 pl3 ll1 ll2 ll3 HK HLK
    refine wp_region_held_drew (S := fun w' => (w'.cell? ⟨W2.heap.size, 0, none⟩ = some (.slice pa pn pc) ∧ w'.cell? ⟨W2.heap.size, 1, none⟩ = some (.slice la ln lc)) ∧ w'.cell? ⟨w1.heap.size, 1, none⟩ = some (.slice sa sn sc)) (by kernel_rfl) (HS.out _ (blk_drew T4.out) (blk_drew T3.out)) (fun hHeld => ?_)
    refine atI 0 ?_
    iterate 4 (refine takeN (v := ?_) rfl (by rfl) ?_ hHeld ?_; rotate_left; (focus (intro w hSw; (try dsimp only at hSw); go_simp; try (with_reducible rfl))); (try simp only [Act.put, Nat.reduceAdd, List.getElem_toArray, List.getElem_cons_succ, List.getElem_cons_zero, List.setIfInBounds_toArray, List.set_cons_zero, List.set_cons_succ]))
    refine atIo ?_
    refine atI 7 ?_
    iterate 2 (refine takeN (v := ?_) rfl (by rfl) ?_ hHeld ?_; rotate_left; (focus (intro w hSw; (try dsimp only at hSw); go_simp; try (with_reducible rfl))); (try simp only [Act.put, Nat.reduceAdd, List.getElem_toArray, List.getElem_cons_succ, List.getElem_cons_zero, List.setIfInBounds_toArray, List.set_cons_zero, List.set_cons_succ]))
    refine atIo ?_
    refine wpAnyH_ready (rs := [4]) (by kernel_rfl) (by simp) (AllReadyH.cons rfl (fun K hK => ?_) AllReadyH.nil)
    go_simp
    refine hK.out _ _ (HS.out _ (blk_alloc (blk_drew T4.out) _) (blk_alloc (blk_drew T3.out) _)) (fun hHeld => ?_)
    clear hK K
    (try simp only [Act.put, List.getElem_toArray, List.getElem_cons_succ, List.getElem_cons_zero, List.setIfInBounds_toArray, List.set_cons_zero, List.set_cons_succ])
    refine wpAnyH_ready (rs := [5]) (by kernel_rfl) (by simp) (AllReadyH.cons rfl (fun K hK => ?_) AllReadyH.nil)
    go_simp
    refine (HC.out _ _ (b_call HB4.out (b_alloc (b_drew (Below.refl _ _)) _)) (blk_new9 (by simp))).mono ?_
    rintro e w6 ⟨a6, k6, rfl, hr6, hb6⟩
    have HR6 := Lib.hid hr6
    have HB46 := Lib.hid (b_call (b_alloc (b_drew (Below.refl W4.heap.size W4)) _) hb6)
    clear hr6 hb6
    refine hK.out _ _ (HS.out _ (blk_below T4.out HB46.out) (blk_below T3.out HB46.out)) (fun hHeld => ?_)
    clear hK K
    (try simp only [Act.put, List.getElem_toArray, List.getElem_cons_succ, List.getElem_cons_zero, List.setIfInBounds_toArray, List.set_cons_zero, List.set_cons_succ])
    refine wpAnyH_ready (rs := [6]) (by kernel_rfl) (by simp) (AllReadyH.cons rfl (fun K hK => ?_) AllReadyH.nil)
    go_simp
    have HM1 := Lib.hid (mrefs_own _ XS w6 HR6.out HXL.out)
    rw [← HRA.out] at HM1
    refine HM1.out.mono ?_
    rintro e w7 ⟨a7, k7, rfl, hr7, ho7, hb7⟩
    have HR7 := Lib.hid hr7; have HO7 := Lib.hid ho7
    have HB47 := Lib.hid (b_call HB46.out hb7)
    clear hr7 hb7 ho7 HM1
    refine hK.out _ _ (HS.out _ (blk_below T4.out HB47.out) (blk_below T3.out HB47.out)) (fun hHeld => ?_)
    clear hK K
    (try simp only [Act.put, List.getElem_toArray, List.getElem_cons_succ, List.getElem_cons_zero, List.setIfInBounds_toArray, List.set_cons_zero, List.set_cons_succ])
    refine wpAnyH_ready (rs := [9]) (by kernel_rfl) (by simp) (AllReadyH.cons rfl (fun K hK => ?_) AllReadyH.nil)
    go_simp
    have HM2 := Lib.hid (mrefs_own _ KS w7 (readI_below HK1.out (b_call HB14.out HB47.out)) HKL.out)
    rw [← HRB.out] at HM2
    refine HM2.out.mono ?_
    rintro e w8 ⟨a8, k8, rfl, hr8, ho8, hb8⟩
    have HR8 := Lib.hid hr8; have HO8 := Lib.hid ho8
    have HB48 := Lib.hid (b_call HB47.out hb8)
    have HR78 := Lib.hid (readI_below HR7.out hb8)
    clear hr8 hb8 ho8 HM2
    refine hK.out _ _ (HS.out _ (blk_below T4.out HB48.out) (blk_below T3.out HB48.out)) (fun hHeld => ?_)
    clear hK K
    (try simp only [Act.put, List.getElem_toArray, List.getElem_cons_succ, List.getElem_cons_zero, List.setIfInBounds_toArray, List.set_cons_zero, List.set_cons_succ])
    (refine wpAnyH_take (i := 10) (v := ?_) rfl (by kernel_rfl) (by kernel_rfl) (by kernel_rfl) (fun _ _ _ h => h) (Or.inl ⟨by rfl, ?_⟩) hHeld ?_; rotate_left; (focus (intro w hSw; (try dsimp only at hSw); go_simp; try (with_reducible rfl))); (try simp only [Act.put, List.getElem_toArray, List.getElem_cons_succ, List.getElem_cons_zero, List.setIfInBounds_toArray, List.set_cons_zero, List.set_cons_succ]))
    have T28 := Lib.hid (blk_below T2.out HB48.out)
    obtain ⟨z0, z1, zf⟩ := blk2 T28.out
    have zz := T28.out.1
    refine wpAnyH_ready (rs := [11]) (by kernel_rfl) (by simp) (AllReadyH.cons rfl (fun K hK => ?_) AllReadyH.nil)
    go_simp
    refine hK.out _ _ (HS.out _ (blk_other (blk_other (blk_below T4.out HB48.out) hne1 _) hne1 _) (blk_other (blk_other (blk_below T3.out HB48.out) hne2 _) hne2 _)) (fun hHeld => ?_)
    clear hK K
    (try simp only [Act.put, List.getElem_toArray, List.getElem_cons_succ, List.getElem_cons_zero, List.setIfInBounds_toArray, List.set_cons_zero, List.set_cons_succ])
    (refine wpAnyH_take (i := 12) (v := ?_) rfl (by kernel_rfl) (by kernel_rfl) (by kernel_rfl) (fun _ _ _ h => h) (Or.inl ⟨by rfl, ?_⟩) hHeld ?_; rotate_left; (focus (intro w hSw; (try dsimp only at hSw); go_simp; try (with_reducible rfl))); (try simp only [Act.put, List.getElem_toArray, List.getElem_cons_succ, List.getElem_cons_zero, List.setIfInBounds_toArray, List.set_cons_zero, List.set_cons_succ]))
    refine wpAnyH_done (by kernel_rfl) ?_ _
    refine then_named ?_
    intro w9 hw9
    have g9 : w8.grownBy w9 (some (w.heap.size + 1)) ∧ w9.cell? ⟨w.heap.size + 1, 0, none⟩ = some (.slice a7 RA.length k7) ∧ w9.cell? ⟨w.heap.size + 1, 1, none⟩ = some (.slice a8 RB.length k8) := by
      subst hw9
      have q := blk2 (blk_set (blk_set T28.out 0 (.slice a7 RA.length k7)) 1 (.slice a8 RB.length k8))
      exact ⟨gb_set (gb_set (gb_refl _ (some (w.heap.size + 1))) _ _ _) _ _ _, q.1, q.2.1⟩
    obtain ⟨g9, u0, u1⟩ := g9
    clear hw9 z0 z1 zf zz
    go_wp2_with fail
    exact bodyPost_ret (v := .tuple #[.agg #[.slice a7 RA.length k7, .slice a8 RB.length k8], .bool true]) (by simp [results, Try.results53, go_sem, u0, u1]) rfl (by
      refine ⟨?_, b_grown (b_call HB4.out HB48.out) g9 (by omega)⟩
      have l46 := HB46.out.size
      have l47 := HB47.out.size
      have l2 := T2.out.1
      rw [if_pos HBB.out.symm]
      refine ⟨⟨a7, RA.length, k7⟩, ⟨a8, RB.length, k8⟩, rfl, ?_, ?_, fun b hb => ?_, fun b hb => ?_⟩
      · show ReadI w9 (.slice a7 RA.length k7) (refsL ((P.fs.getD i fzM).ps ++ (P.fs.getD i fzM).ls))
        rw [HGP.out, ← HXS.out, ← HRA.out]
        exact readI_kept HR78.out (fun b hb hlt => g9.block b hlt (fun e => by injection e with e; have := (HO7.out b hb).1; omega)) g9.size
      · show ReadI w9 (.slice a8 RB.length k8) (refsL (factM Fx i j).2)
        rw [← HKS.out, ← HRB.out]
        exact readI_kept HR8.out (fun b hb hlt => g9.block b hlt (fun e => by injection e with e; have := (HO8.out b hb).1; omega)) g9.size
      · have := (HO7.out b hb).1; omega
      · have := (HO8.out b hb).1; omega)
def RetFR (w : World) (Fx : FxM) (e : Ending) (w' : World) : Prop := ∃ a c, e = .returned (.slice a Fx.length c) ∧ FacR w' (.slice a Fx.length c) Fx ∧ Below w.heap.size w w'
end Go.Proofs.Ytdmidnmciaediaa
