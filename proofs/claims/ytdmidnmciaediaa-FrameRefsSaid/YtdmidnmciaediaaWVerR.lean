/- Layer 26: the contract of the document's Check. Conditions: those stated. -/
import Derived.Test.YtdmidnmciaediaaWVerP
namespace Go.Proofs.Ytdmidnmciaediaa
open Go.RowKit
set_option linter.unusedVariables false
set_option linter.unusedSimpArgs false
attribute [local go_sem] over_cell over_frozen
/-- A row of the document's facts, typed. -/
structure RowD (w : World) (g n : Nat) (F : List (Bool × Sl)) (M : List (Option (List Int))) : Prop where
  fr : Blk w g (factE.row F)
  ty : tyB w g = some DFT
  lf : F.length = n
  lm : M.length = n
  ok : ∀ k, (h : k < F.length) → F[k].1 = (M.getD k none).isSome ∧ ReadI w F[k].2.v ((M.getD k none).getD []) ∧ slOk w 3 F[k].2.a F[k].2.n
theorem rowD_below {w w' : World} {g n : Nat} {F : List (Bool × Sl)} {M : List (Option (List Int))} (h : RowD w g n F M) (hb : Below w.heap.size w w') : RowD w' g n F M :=
  ⟨blk_below h.fr hb, tyB_call h.ty hb, h.lf, h.lm, fun k hk => ⟨(h.ok k hk).1, readI_below (h.ok k hk).2.1 hb, slOk_below (h.ok k hk).2.2 hb⟩⟩
def SLD : TypeId := 89
/-- A block of another type turns. -/
theorem rowD_grown {w w' : World} {g n : Nat} {F : List (Bool × Sl)} {M : List (Option (List Int))} {r : Option Nat} (h : RowD w g n F M) (hg : w.grownBy w' r) (hr : ∀ j, r = some j → ∃ T, tyB w j = some T ∧ T ≠ DFT ∧ T ≠ 3) : RowD w' g n F M := by
  have hne : ∀ (T : TypeId), (T = DFT ∨ T = 3) → ∀ k, tyB w k = some T → some k ≠ r := fun T hT k hk e => by
    obtain ⟨T', h1, h2, h3⟩ := hr k e.symm
    rw [hk] at h1; injection h1 with h1; subst h1
    exact hT.elim h2 h3
  refine ⟨blk_grown h.fr hg (hne DFT (Or.inl rfl) g h.ty), tyB_grown h.ty hg (hne DFT (Or.inl rfl) g h.ty), h.lf, h.lm, fun k hk => ⟨(h.ok k hk).1, ?_, ?_⟩⟩
  · have q := (h.ok k hk).2.1
    have s := (h.ok k hk).2.2
    exact readR_I (readR_apart (readI_R q) s hg.size (fun j hj => hg.block j (tyB_lt hj) (fun e => hne 3 (Or.inr rfl) j hj e)))
  · exact slOk_keep (h.ok k hk).2.2 (fun j hj => tyB_grown hj hg (hne 3 (Or.inr rfl) j hj))
theorem rowSlD : IsRow Try.prog 67 SLD 1 24 (.slice none 0 0) := ⟨Try.underlying67, by kernel_rfl, by rfl⟩
/-- The rows of all functions that were gone through. -/
def AllD (w : World) (L : List (Nat × Nat)) (Ms : List (List (Option (List Int)))) : Prop := L.length = Ms.length ∧ ∀ k, (h : k < L.length) → (h' : k < Ms.length) → ∃ F, RowD w L[k].1 L[k].2 F Ms[k]
theorem allD_snoc {w : World} {L : List (Nat × Nat)} {Ms : List (List (Option (List Int)))} {s : Nat × Nat} {M : List (Option (List Int))} (h : AllD w L Ms) (hr : ∃ F, RowD w s.1 s.2 F M) : AllD w (L ++ [s]) (Ms ++ [M]) := by
  refine ⟨by simp [h.1], fun k hk hk' => ?_⟩
  by_cases e : k < L.length
  · rw [List.getElem_append_left e, List.getElem_append_left (by rw [← h.1]; exact e)]
    exact h.2 k e (by rw [← h.1]; exact e)
  · have e2 : k = L.length := by simp at hk; omega
    subst e2
    rw [List.getElem_append_right (Nat.le_refl _), List.getElem_append_right (by rw [h.1]; exact Nat.le_refl _)]
    simpa [h.1] using hr
theorem allD_below {w w' : World} {L : List (Nat × Nat)} {Ms : List (List (Option (List Int)))} (h : AllD w L Ms) (hb : Below w.heap.size w w') : AllD w' L Ms := ⟨h.1, fun k hk hk' => by obtain ⟨F, z⟩ := h.2 k hk hk'; exact ⟨F, rowD_below z hb⟩⟩
theorem allD_grown {w w' : World} {L : List (Nat × Nat)} {Ms : List (List (Option (List Int)))} {r : Option Nat} (h : AllD w L Ms) (hg : w.grownBy w' r) (hr : ∀ j, r = some j → ∃ T, tyB w j = some T ∧ T ≠ DFT ∧ T ≠ 3) : AllD w' L Ms := ⟨h.1, fun k hk hk' => by obtain ⟨F, z⟩ := h.2 k hk hk'; exact ⟨F, rowD_grown z hg hr⟩⟩
def RetChkD (w : World) (R : Sum (List (List (Option (List Int)))) (Int × Int × Int)) (e : Ending) (w' : World) : Prop :=
  (match R with
    | .inl Ms => ∃ a c L, e = .returned (.tuple #[.slice a L.length c, wrongV 0 0 0]) ∧ ReadR slE w' (.slice a L.length c) L ∧ AllD w' L Ms
    | .inr x => e = .returned (.tuple #[.slice none 0 0, wrongV x.1 x.2.1 x.2.2])) ∧ Below w.heap.size w w'
theorem eff_nn2 {P : PrM} {f : FnM} {k : Nat} {st : List Int} (hP : SmallP P) (hG : GoodE P f) : 0 ≤ (effect P f k st).c := by
  have hi : (codeAt f k).op < 37 := by
    unfold codeAt
    rw [show ((k : Int).toNat) = k from rfl, List.getD_eq_getElem?_getD]
    cases h : f.code[k]? with
    | none => show (0 : Int) < 37; decide
    | some x => exact (hG.i _ (List.mem_of_getElem? h)).2.1
  have hd := (deal_bd P f (codeAt f k) st hP hi).1
  unfold effect effD
  repeat' split
  all_goals first | exact hd | decide | exact Int.le_refl _
theorem runV_pos {P : PrM} {f : FnM} (hP : SmallP P) (hG : GoodE P f) : ∀ (n : Nat) (s : StM) {x : Int × Int}, runV P f n s = .inr x → 0 < x.2
  | 0, s, x, h => by cases h
  | n + 1, s, x, h => by
    rw [runV] at h
    split at h
    · cases h
    · rename_i k _
      split at h
      · rename_i q
        injection h with h
        have := eff_nn2 (k := k) (st := (s.F.getD k none).getD []) hP hG
        rw [← h]; show 0 < (effect P f k ((s.F.getD k none).getD [])).c; omega
      · split at h
        · injection h with h
          rw [← h]; show (0 : Int) < 4; decide
        · exact runV_pos hP hG n _ h
/-- What stands ahead of a function. -/
structure CPD (w0 w : World) (P : PrM) (R : Sum (List (List (Option (List Int)))) (Int × Int × Int)) (j : Nat) (a : Option Addr) (n c : Nat) (L0 : List (Nat × Nat)) : Prop where
  be : Below w0.heap.size w0 w
  x : ∃ L : List (Nat × Nat), n = L.length ∧ OwnR slE SLD w w0.heap.size (.slice a n c) L ∧ ∃ Acc, AllD w L Acc ∧ Acc.length = j ∧ R = joinC Acc (chkFs P (P.fs.drop j) j)
set_option maxRecDepth 100000 in
set_option maxHeartbeats 8000000 in
theorem rcheck_any (p : PrV) (P : PrM) (w : World) (h : ReadP w p P) : Calls Try.prog 28 #[aggP p] w (RetChkD w (checkM P)) := by
  have HM := Lib.hid (fun w' (hb : Below w.heap.size w w') => rmay25_any p P w' (readP_below h hb))
  obtain ⟨R, hR⟩ : ∃ R, R = checkM P := ⟨_, rfl⟩
  have HRR := Lib.hid hR
  rw [← hR]
  clear hR
  obtain ⟨n1, n2, n3⟩ := fn_len h
  have HR := Lib.hid h
  obtain ⟨t, ht⟩ : ∃ t, t = mayP P := ⟨_, rfl⟩
  rw [← ht] at HM
  have HT := Lib.hid ht
  clear ht
  obtain ⟨u, ⟨ga, gn, gc⟩, m0, ⟨fa, fn, fc⟩⟩ := p
  simp only at n1 n2 n3
  subst n1
  clear h
  unfold aggP Sl.v at *
  simp only at *
  go_enter Try.func28, Try.ntmps28
  go_upto_region 1 with fail
  refine wp_named ?_
  intro W hW
  obtain ⟨q1, q2, q3⟩ := boxes2 w #[.bool u, .slice ga gn gc, .int .i64 m0, .slice fa P.fs.length fc] #[.int .i64 0, .int .i64 0, .int .i64 0] 25 69
  rw [← hW] at q1 q2 q3
  have HBW := Lib.hid q3
  have HK : Hid (∀ w', Below W.heap.size W w' → (w'.cell? ⟨w.heap.size, 0, none⟩ = some (.bool u) ∧ w'.cell? ⟨w.heap.size, 1, none⟩ = some (.slice ga gn gc) ∧ w'.cell? ⟨w.heap.size, 2, none⟩ = some (.int .i64 m0) ∧ w'.cell? ⟨w.heap.size, 3, none⟩ = some (.slice fa P.fs.length fc)) ∧ (w'.cell? ⟨w.heap.size + 1, 0, none⟩ = some (.int .i64 0) ∧ w'.cell? ⟨w.heap.size + 1, 1, none⟩ = some (.int .i64 0) ∧ w'.cell? ⟨w.heap.size + 1, 2, none⟩ = some (.int .i64 0) ∧ (∀ i, w'.frozen? ⟨w.heap.size + 1, i, none⟩ = false)) ∧ w.heap.size < w'.heap.size ∧ w.heap.size + 1 < w'.heap.size) := Lib.hid (fun w' hb => by
    have k1 := blk_below q1 hb; have k2 := blk_below q2 hb
    obtain ⟨y0, y1, y2, y3, _⟩ := blk4 k1
    obtain ⟨z0, z1, z2, zf⟩ := v_blk3 k2
    exact ⟨⟨y0, y1, y2, y3⟩, ⟨z0, z1, z2, zf⟩, k1.1, k2.1⟩)
  have HTY : Hid (tyB W (w.heap.size + 1) = some 69) := Lib.hid (by rw [hW]; exact tyB_new2 (by simp))
  clear hW q1 q2 q3
  obtain ⟨⟨y0, y1, y2, y3⟩, ⟨z0, z1, z2, zf⟩, s0, s1⟩ := HK.out W (Below.refl _ _)
  go_wp2_with fail
  refine (HM.out _ HBW.out).mono ?_
  rintro e w1 ⟨rfl, hb1⟩
  have HB1 := Lib.hid hb1
  clear hb1 y0 y1 y2 y3 z0 z1 z2 zf s0 s1
  obtain ⟨⟨y0, y1, y2, y3⟩, ⟨z0, z1, z2, zf⟩, s0, s1⟩ := HK.out w1 HB1.out
  cases t
  case false =>
    have HRE : Hid (R = .inr (0, 0, 5)) := Lib.hid (by rw [HRR.out]; unfold checkM; rw [if_neg (by rw [← HT.out]; decide)])
    go_wp2_with fail
    exact bodyPost_ret (v := .tuple #[.slice none 0 0, .agg #[.int .i64 0, .int .i64 0, .int .i64 5]]) (by simp [results, Try.results28, go_sem, z0, z1, z2]) rfl (by
      show RetChkD _ _ _ _
      rw [HRE.out]
      exact ⟨rfl, b_grown (b_call HBW.out HB1.out) (gb_set3 _ _ _ _ _) (by omega)⟩)
  case true =>
    obtain ⟨g1, g2, g3⟩ := may_good HT.out.symm
    have HG := Lib.hid (And.intro g2 g3)
    obtain ⟨bb, oo, ea, hlt, v, hd, e0, e2⟩ := fn_at0 HR.out g1
    simp only at ea
    subst ea
    have hbw := b_call HBW.out HB1.out
    have hbl : bb < w1.heap.size := Nat.lt_of_lt_of_le hlt hbw.size
    have d0 := ((bcell hbw).1 _ _ hlt).trans e0
    have d2 := ((bcell hbw).1 _ _ hlt).trans e2
    obtain ⟨f1, f2, f3⟩ := int_len hd.p
    rw [f1] at d0
    obtain ⟨f0, hf0⟩ : ∃ f0, f0 = P.fs.getD 0 fzM := ⟨_, rfl⟩
    rw [← hf0] at d0 d2 f2
    have HF0 := Lib.hid hf0
    have n0 : (0 : Int) < P.fs.length := by omega
    have nc : (P.fs.length : Int) ≤ fc := by omega
    have hpl : (f0.ps.length : Int) ≤ v.p.c := by omega
    have HLT := Lib.hid hlt
    have hlen16 : Hid (P.fs.length ≤ 17) := Lib.hid (g2.f)
    have HPOS := Lib.hid g1
    clear e0 e2 hd f1 hf0 hbw g2 g3 hlt
    by_cases hbad : f0.ps ≠ [] ∨ f0.r ≠ 0
    case pos =>
      have HRE : Hid (R = .inr (0, 0, 7)) := Lib.hid (by rw [HRR.out]; unfold checkM; rw [if_pos HT.out.symm, ← HF0.out, if_pos hbad])
      by_cases hp : f0.ps.length = 0
      · have hr : f0.r ≠ 0 := hbad.resolve_left (fun q => q (List.eq_nil_of_length_eq_zero hp))
        have hrb : (f0.r != 0) = true := bne_iff_ne.2 hr
        rw [hp] at d0
        clear hbad hr hp
        go_wp2_with fail
        exact bodyPost_ret (v := .tuple #[.slice none 0 0, .agg #[.int .i64 0, .int .i64 0, .int .i64 7]]) (by simp [results, Try.results28, go_sem, z0, z1, z2]) rfl (by
          show RetChkD _ _ _ _
          rw [HRE.out]
          exact ⟨rfl, b_grown (b_call HBW.out HB1.out) (gb_set3 _ _ _ _ _) (by omega)⟩)
      · obtain ⟨n, hn⟩ : ∃ n, f0.ps.length = n + 1 := ⟨f0.ps.length - 1, by omega⟩
        rw [hn] at d0 hpl f2
        have hpp : (0 : Int) < (n : Int) + 1 := by omega
        clear hbad hp hn
        go_wp2_with fail
        exact bodyPost_ret (v := .tuple #[.slice none 0 0, .agg #[.int .i64 0, .int .i64 0, .int .i64 7]]) (by simp [results, Try.results28, go_sem, z0, z1, z2]) rfl (by
          show RetChkD _ _ _ _
          rw [HRE.out]
          exact ⟨rfl, b_grown (b_call HBW.out HB1.out) (gb_set3 _ _ _ _ _) (by omega)⟩)
    case neg =>
      have hp : f0.ps = [] := by by_cases q : f0.ps = []; exact q; exact absurd (Or.inl q) hbad
      have hr : f0.r = 0 := by by_cases q : f0.r = 0; exact q; exact absurd (Or.inr q) hbad
      have HRE : Hid (R = joinC [] (chkFs P (P.fs.drop 0) 0)) := Lib.hid (by
        rw [HRR.out]; unfold checkM; rw [if_pos HT.out.symm, ← HF0.out, if_neg hbad, List.drop_zero]
        cases chkFs P P.fs 0 <;> rfl)
      rw [hp] at d0
      rw [hr] at d2
      simp only [List.length_nil] at d0
      clear hbad hp hr f2 hpl
      have HLP : Hid (CPD W w1 P R 0 none 0 0 []) := Lib.hid ⟨HB1.out, [], rfl, ownR_nil _ _, ⟨[], ⟨rfl, fun k hk => absurd hk (Nat.not_lt_zero _)⟩, rfl, HRE.out⟩⟩
      have HBX : Hid (Below W.heap.size W w1) := HB1
      go_wp2_with fail
      clear d0 d2 hbl y0 y1 y2 y3 z0 z1 z2 zf s0 s1 HF0
      go_loopw [4, 33] (fun vo i wr => ∃ (j n c : Nat) (a : Option Addr) (L : List (Nat × Nat)), i = .int .i64 j ∧ j ≤ P.fs.length ∧ vo = .slice a n c ∧ Hid (Below W.heap.size W wr) ∧ Hid (CPD W wr P R j a n c L)) (fun _ i _ => P.fs.length - (intOf i).toNat)
      case atStart => exact ⟨0, 0, 0, none, [], rfl, Nat.zero_le _, rfl, HBX, HLP⟩
      case round =>
        obtain ⟨j, n, c, a, L9, rfl, hj, rfl, HBR, HCP⟩ := hrel
        obtain ⟨W2, hW2⟩ : ∃ W2, W2 = wr := ⟨_, rfl⟩
        subst hW2
        have j0 : (0 : Int) ≤ j := by omega
        obtain ⟨⟨y0, y1, y2, y3⟩, ⟨z0, z1, z2, zf⟩, s0, s1⟩ := HK.out W2 HBR.out
        by_cases hlt : j < P.fs.length
        · obtain ⟨bb2, oo2, ea2, hlt2, v, hd, e0, e1, e2, e3⟩ := fn_at HR.out hlt
          simp only at ea2
          injection ea2 with ea3
          injection ea3 with ea4 ea5 ea6
          subst ea4 ea5
          clear ea6
          have hbw := b_call HBW.out HBR.out
          have hbl : bb < W2.heap.size := Nat.lt_of_lt_of_le hlt2 hbw.size
          have d0 := ((bcell hbw).1 _ _ hlt2).trans e0
          have d1 := ((bcell hbw).1 _ _ hlt2).trans e1
          have d2 := ((bcell hbw).1 _ _ hlt2).trans e2
          have d3 := ((bcell hbw).1 _ _ hlt2).trans e3
          have HD := Lib.hid hd
          have HDRP : Hid (P.fs.drop j = P.fs[j] :: P.fs.drop (j + 1)) := Lib.hid (List.drop_eq_getElem_cons hlt)
          have HGF := Lib.hid (HG.out.2 _ (List.getElem_mem hlt))
          have HRJ : Hid (P.fs[j].r = P.fs[j].r) := Lib.hid rfl
          have hvr : v.r = P.fs[j].r := hd.r
          rw [← hvr] at d2
          generalize P.fs[j] = f at *
          obtain ⟨⟨pa, pn, pc⟩, ⟨la, ln, lc⟩, r, ⟨ca, cn, cc⟩⟩ := v
          simp only at d0 d1 d2 d3
          have j1 : (j : Int) < P.fs.length := by omega
          have j2 : (j : Int) < fc := by omega
          clear hd e0 e1 e2 e3 hvr hlt2
          go_upto_region 9 with fail
          refine wp_named ?_
          intro W5 hW5
          have BF : Blk W5 W2.heap.size [.slice pa pn pc, .slice la ln lc, .int .i64 r, .slice ca cn cc] := by
            rw [hW5]
            first | exact blk_new _ _ _ | exact blk_set (blk_set (blk_set (blk_set (blk_new W2 _ _) 0 _) 1 _) 2 _) 3 _
          have hb5 : Below W2.heap.size W2 W5 := by
            rw [hW5]
            first | exact b_alloc (Below.refl _ _) _ | exact b_grown (b_alloc (Below.refl _ _) _) (gb_set (gb_set (gb_set (gb_set (gb_refl _ (some W2.heap.size)) _ _ _) _ _ _) _ _ _) _ _ _) (Nat.le_refl _)
          have HB5 := Lib.hid hb5
          obtain ⟨b0, b1, b2, b3, bf⟩ := blk4 BF
          have hbz := BF.1
          clear hW5 hb5 BF d0 d1 d2 d3 hbl y0 y1 y2 y3 z0 z1 z2 zf s0 s1
          obtain ⟨⟨y0, y1, y2, y3⟩, ⟨z0, z1, z2, zf⟩, s0, s1⟩ := HK.out W5 (b_call HBR.out HB5.out)
          have HVF := Lib.hid (rfun_any ⟨u, ⟨ga, gn, gc⟩, m0, ⟨some ⟨bb, oo, none⟩, P.fs.length, fc⟩⟩ P ⟨⟨pa, pn, pc⟩, ⟨la, ln, lc⟩, r, ⟨ca, cn, cc⟩⟩ f W5 (readP_below HR.out (b_call hbw HB5.out)) HG.out.1 (deepF_below HD.out (b_call hbw HB5.out)) HGF.out.1 HGF.out.2.2.1 HGF.out.2.2.2 HGF.out.2.1)
          have HBW5 := Lib.hid (b_call hbw HB5.out)
          clear hbw
          go_wp2_with fail
          refine HVF.out.mono ?_
          intro e w6 h6
          obtain ⟨hr6, hb6⟩ := h6
          have HB6 := Lib.hid (b_call HB5.out hb6)
          clear b0 b1 b2 b3 bf hbz y0 y1 y2 y3 z0 z1 z2 zf s0 s1
          obtain ⟨⟨y0, y1, y2, y3⟩, ⟨z0, z1, z2, zf⟩, s0, s1⟩ := HK.out w6 (b_call HBR.out HB6.out)
          obtain ⟨FR, hFR⟩ : ∃ FR, FR = funM P f := ⟨_, rfl⟩
          rw [← hFR] at hr6
          have HFR := Lib.hid hFR
          clear hFR
          cases FR with
          | inr x =>
            have hr6 : e = .returned (.tuple #[.slice none 0 0, .int .i64 x.1, .int .i64 x.2]) := hr6
            subst hr6
            have hx2 : (0 : Int) < x.2 := runV_pos HG.out.1 HGF.out.2.1 _ _ HFR.out.symm
            have HRX : Hid (R = .inr ((j : Int), x.1, x.2)) := Lib.hid (by
              obtain ⟨L, _, _, Acc, _, _, hRR⟩ := HCP.out.x
              rw [hRR, HDRP.out]
              exact join_bad HFR.out.symm)
            have HBZ := Lib.hid (b_call HBW.out (b_call HBR.out HB6.out))
            clear hb6
            go_wp2_with fail
            exact bodyPost_ret (v := .tuple #[.slice none 0 0, .agg #[.int .i64 j, .int .i64 x.1, .int .i64 x.2]]) (by simp [results, Try.results28, go_sem, z0, z1, z2]) rfl (by
              show RetChkD _ _ _ _
              rw [HRX.out]
              exact ⟨rfl, b_grown HBZ.out (gb_set3 _ _ _ _ _) (by omega)⟩)
          | inl M =>
            obtain ⟨g, F, he, hrow⟩ := hr6
            subst he
            have hcl : f.code.length ≤ 200 := HGF.out.2.2.2
            have HROW : Hid (RowD w6 g f.code.length F M) := Lib.hid ⟨hrow.fr, hrow.ty, hrow.lf, by rw [← hrow.ok.1]; exact hrow.lf, fun k hk => ⟨(hrow.ok.2 k hk).1, (hrow.ok.2 k hk).2, hrow.so k hk⟩⟩
            have HSM9 := Lib.hid hrow.sm
            obtain ⟨N, hN⟩ : ∃ N, N = f.code.length := ⟨_, rfl⟩
            rw [← hN] at HROW
            rw [← hN]
            have HB7 := HB6
            obtain ⟨L, hnl, hown, Acc, hAR, hAl, hRR⟩ := HCP.out.x
            subst hnl
            have hl17 : (L.length : Int) ≤ 17 := by have := hlen16.out; have := hAR.1; omega
            have HOWN := Lib.hid (ownR_below hown HB7.out)
            have HAR := Lib.hid (allD_below hAR HB7.out)
            have HAL := Lib.hid hAl
            have HRX : Hid (R = joinC (Acc ++ [M]) (chkFs P (P.fs.drop (j + 1)) (j + 1))) := Lib.hid (by rw [hRR, HDRP.out]; exact join_step HFR.out.symm)
            have HBZ := Lib.hid (b_call HCP.out.be HB7.out)
            have hwz := HBZ.out.size
            clear hown hAR hAl hRR hrow hcl hb6 hN HVF y0 y1 y2 y3 z0 z1 z2 zf s0 s1
            go_wp2_with (at_builtin; refine append1 (c := slE) rowSlD (by rfl) _ _ (by rfl) (by rfl) (v := .slice a L.length c) (L := L) (B := W.heap.size) (ownR_alloc HOWN.out _) (g, N) _ 1 (by rfl) (blk_new9 rfl) ?c1 ?c2 ?c3 ?_; (case c1 => (omega)); (case c2 => (unfold maxLen; omega)); (case c3 => (simp; omega)); intro g9 cap9 w9 ho9 hg9 hor9 hl9; have HO9 := Lib.hid ho9; have HG9 := Lib.hid hg9; clear ho9 hg9 hor9 hl9)
            go_roundw
            case rel =>
              have hty : ∀ j, (Value.slice a L.length c).ownBlock = some j → ∃ T, tyB _ j = some T ∧ T ≠ DFT ∧ T ≠ 3 := fun j hj => ⟨SLD, ownR_ty (ownR_alloc HOWN.out (.cells #[.slice (some ⟨g, 0, none⟩) N N] SLD)) j hj, by decide, by decide⟩
              have hBn : Below W.heap.size W w9 := b_ownR (b_alloc HBZ.out _) (ownR_alloc HOWN.out _) HG9.out
              refine ⟨j + 1, L.length + 1, cap9, some ⟨g9, 0, none⟩, [], by first | rfl | go_num, by omega, rfl, Lib.hid hBn, Lib.hid ⟨hBn, L ++ [(g, N)], by simp, HO9.out, Acc ++ [M], ?_, by simp; exact HAL.out, HRX.out⟩⟩
              exact allD_snoc (allD_grown (allD_below HAR.out (b_alloc (Below.refl _ _) _)) HG9.out hty) ⟨_, rowD_grown (rowD_below HROW.out (b_alloc (Below.refl _ _) _)) HG9.out hty⟩
            case measure => simp [intOf]; omega
        · have j1 : ¬ ((j : Int) < P.fs.length) := by omega
          obtain ⟨L, hnl, hown, Acc, hAR, hAl, hRR⟩ := HCP.out.x
          subst hnl
          have HRX : Hid (R = .inl Acc) := Lib.hid (by rw [hRR, List.drop_of_length_le (by omega)]; show Sum.inl (Acc ++ []) = _; rw [List.append_nil])
          have hz := hown
          have HOWN := Lib.hid hown
          have HAR := Lib.hid hAR
          clear hown hAR hAl hRR hz
          go_wp2_with fail
          exact bodyPost_ret (v := .tuple #[.slice a L.length c, .agg #[.int .i64 0, .int .i64 0, .int .i64 0]]) (by simp [results, Try.results28, go_sem, z0, z1, z2]) rfl (by
            show RetChkD _ _ _ _
            rw [HRX.out]
            have g3 := gb_set3 W2 (w.heap.size + 1) (.int .i64 0) (.int .i64 0) (.int .i64 0)
            have hTX := tyB_call HTY.out HBR.out
            have hne : (Value.slice a L.length c).ownBlock ≠ some (w.heap.size + 1) := fun e => by
              have := ownR_ty HOWN.out _ e
              rw [hTX] at this; injection this with this; exact absurd this (by decide)
            refine ⟨⟨a, c, L, rfl, readR_grown (ownR_read HOWN.out) g3 (Or.inr hne), allD_grown HAR.out g3 (fun j hj => ?_)⟩, b_grown (b_call HBW.out HBR.out) g3 (by omega)⟩
            injection hj with hj
            subst hj
            exact ⟨_, hTX, by decide, by decide⟩)
end Go.Proofs.Ytdmidnmciaediaa
