/- MapsOf, walked: whatever the program, the facts and the place, the answer is true. Conditions: the program and the facts read as lists, none of them too long to be written down. -/
import Derived.Test.YtdmidnmciaediaaZMapF
import Derived.Test.YtdmidnmciaediaaZOurs25
namespace Go.Proofs.Ytdmidnmciaediaa
open Go.RowKit
set_option linter.unusedVariables false
set_option linter.unusedSimpArgs false
attribute [local go_sem] over_cell over_frozen
def MAPT : TypeId := 110
def RetTy (w : World) (xs : List Int) (e : Ending) (w' : World) : Prop := ∃ a c, e = .returned (.slice a xs.length c) ∧ ReadI w' (.slice a xs.length c) xs ∧ (∀ k, (Value.slice a xs.length c).ownBlock = some k → tyB w' k = some 3) ∧ Below w.heap.size w w'
set_option maxHeartbeats 1000000 in
theorem rrefs_ty (u : Value) (xs : List Int) (w : World) (h : ReadI w u xs) (hl : xs.length ≤ 17592186044415) : Calls Try.prog 56 #[u] w (RetTy w (refsL xs)) := by
  obtain ⟨a, cap, rfl⟩ := readI_len h
  have H := Lib.hid h
  have hl1 : (xs.length : Int) ≤ 17592186044415 := by omega
  have HLL := Lib.hid hl
  clear h hl
  go_enter Try.func56, Try.ntmps56
  go_wp2_with fail
  go_loopw [3, 8] (fun v i wr => ∃ k : Nat, k ≤ xs.length ∧ i = .int .i64 k ∧ (∃ (a : Option Addr) (n c : Nat) (LL : List Int), v = .slice a n c ∧ n = LL.length ∧ Hid (LL = refsL (xs.take k)) ∧ Hid (OwnR intE 3 wr w.heap.size (.slice a LL.length c) LL)) ∧ Hid (Below w.heap.size w wr)) (fun _ i _ => xs.length - (intOf i).toNat)
  case atStart => exact ⟨0, Nat.zero_le _, rfl, ⟨none, 0, 0, [], rfl, rfl, Lib.hid rfl, Lib.hid (ownR_nil _ _)⟩, Lib.hid (Below.refl _ _)⟩
  case round =>
    obtain ⟨k, hk, rfl, ⟨a', n', c', LL, rfl, rfl, HEQ, HOW⟩, HB⟩ := hrel
    have k0 : (0 : Int) ≤ k := by omega
    by_cases hlt : k < xs.length
    · have k1 : (k : Int) < xs.length := by omega
      obtain ⟨bl, off, cp, e1, r1, r2, hbl, r4⟩ := readI_pos (readI_below H.out HB.out) (by omega)
      injection e1 with e1 _ e3
      subst e1
      have hcx := r4 k hlt
      rw [List.getD_eq_getElem?_getD, List.getElem?_eq_getElem hlt, Option.getD_some] at hcx
      have HT := Lib.hid (refs_take hlt)
      have hLL : LL.length ≤ 17592186044414 := by
        rw [HEQ.out]
        have q := refsF_len (xs.take k) 0
        rw [List.length_take] at q
        have := HLL.out
        show (refsF (xs.take k) 0).length ≤ _
        omega
      generalize xs[k] = x at *
      have hbs := HB.out.size
      clear r4 r1 r2 e3
      by_cases hx : x = 2
      · rw [if_pos hx] at HT
        subst hx
        go_wp2_with (at_builtin; refine append1 (c := intE) rowInt (by rfl) _ _ (by rfl) (by rfl) (v := .slice a' LL.length c') (L := LL) (B := w.heap.size) (ownR_alloc HOW.out _) (k : Int) _ 1 (by rfl) (blk_new9 rfl) ?c1 ?c2 ?c3 ?_; (case c1 => (omega)); (case c2 => (unfold maxLen; omega)); (case c3 => (simp; omega)); intro g9 cap9 w9 ho9 hg9 hor9 hl9; have HO9 := Lib.hid ho9; have HG9 := Lib.hid hg9; clear ho9 hg9 hor9 hl9)
        go_roundw
        case rel =>
          refine ⟨k + 1, by omega, by first | rfl | go_num, ⟨some ⟨g9, 0, none⟩, LL.length + 1, cap9, LL ++ [(k : Int)], rfl, by simp, Lib.hid (by rw [HT.out, HEQ.out]), Lib.hid (by rw [List.length_append]; exact HO9.out)⟩, Lib.hid (b_ownR (b_alloc HB.out _) (ownR_alloc HOW.out _) HG9.out)⟩
        case measure => simp [intOf]; omega
      · rw [if_neg hx, List.append_nil] at HT
        have hxb : (x == 2) = false := beq_false_of_ne hx
        clear hx
        go_wp2_with fail
        go_roundw
        case rel => exact ⟨k + 1, by omega, by first | rfl | go_num, ⟨a', LL.length, c', LL, rfl, rfl, Lib.hid (by rw [HT.out, HEQ.out]), HOW⟩, HB⟩
        case measure => simp [intOf]; omega
    · have k1 : ¬ ((k : Int) < xs.length) := by omega
      have HF : Hid (LL = refsL xs) := Lib.hid (by rw [HEQ.out, List.take_of_length_le (by omega)])
      go_wp2_with fail
      go_ret
      rw [← HF.out]
      exact ⟨a', c', rfl, readR_I (ownR_read HOW.out), ownR_ty HOW.out, HB.out⟩
set_option maxRecDepth 100000 in
set_option maxHeartbeats 8000000 in
theorem mapsOf_any (p : PrV) (P : PrM) (v : Value) (Fx : FxM) (own : Bool) (f a : Int) (w : World) (h : ReadP w p P) (hf : FacR w v Fx) (hk : ∀ i j, (factM Fx i j).2.length ≤ 17592186044415) : Calls Try.prog 14 #[aggP p, v, .bool own, .int .i64 f, .int .i64 a] w fun e w' => e = .returned (.bool true) ∧ Below w.heap.size w w' := by
  have H := Lib.hid h
  obtain ⟨C, hC⟩ : ∃ C, C = cutP P := ⟨_, rfl⟩
  have HC := Lib.hid hC
  have HSM : Hid (SmallP C) := by show SmallP C; rw [hC]; exact small_cut P
  have HF := Lib.hid hf
  obtain ⟨F2, hF2⟩ : ∃ F2, F2 = cutX Fx := ⟨_, rfl⟩
  have HOK2 : Hid (FxOk C F2) := Lib.hid (by rw [hF2]; exact fxOk_cut hk)
  have HF2 := Lib.hid hF2
  obtain ⟨va, vc, rfl, m2, m3⟩ := facR_form hf
  obtain ⟨u, ⟨ga, gn, gc⟩, m, ⟨fa, fn, fc⟩⟩ := p
  clear h hC hf hk m2 m3 hF2
  unfold aggP Sl.v
  simp only
  have HB0 := Lib.hid (b_alloc (Below.refl w.heap.size w) (.cells #[.bool u, .slice ga gn gc, .int .i64 m, .slice fa fn fc] 25))
  have HX0 := Lib.hid (blk_new w #[.bool u, .slice ga gn gc, .int .i64 m, .slice fa fn fc] 25)
  go_enter Try.func14, Try.ntmps14
  go_wp2_with fail
  refine (cut_made ⟨u, ⟨ga, gn, gc⟩, m, ⟨fa, fn, fc⟩⟩ P w _ H.out HB0.out).mono ?_
  rintro e w1 ⟨q, rfl, hcm, hb1⟩
  rw [← HC.out] at hcm
  obtain ⟨qu, ⟨qa, qn, qc⟩, qm, ⟨ra, rn, rc⟩⟩ := q
  have BX1 := blk_below HX0.out hb1
  have HB1 := Lib.hid (b_call HB0.out hb1)
  have HCM := Lib.hid hcm
  have hl1 := BX1.1
  have HX1 := Lib.hid BX1
  obtain ⟨c0, c1, c2, c3, cf⟩ := blk4 BX1
  clear hcm hb1 BX1
  unfold aggP Sl.v
  simp only
  go_upto_region 2 with fail
  refine wp_named ?_
  intro W hW
  have BW : Blk W w.heap.size [.bool qu, .slice qa qn qc, .int .i64 qm, .slice ra rn rc] := by rw [hW]; exact blk_set (blk_set (blk_set (blk_set HX1.out 0 _) 1 _) 2 _) 3 _
  have GW := gb_set (gb_set (gb_set (gb_set (gb_refl w1 (some w.heap.size)) 0 none (.bool qu)) 1 none (.slice qa qn qc)) 2 none (.int .i64 qm)) 3 none (.slice ra rn rc)
  rw [← hW] at GW
  have hBW : Below w.heap.size w W := b_grown HB1.out GW (Nat.le_refl _)
  have RW : ReadP W ⟨qu, ⟨qa, qn, qc⟩, qm, ⟨ra, rn, rc⟩⟩ C := cutMade_read (cutMade_grown HCM.out GW (by simp)) hBW
  obtain ⟨n1, n2, n3⟩ := fn_len RW
  simp only at n1 n2 n3
  subst n1
  have HR := Lib.hid RW
  have HBW := Lib.hid hBW
  have HK : Hid (∀ w', Below W.heap.size W w' → (w'.cell? ⟨w.heap.size, 0, none⟩ = some (.bool qu) ∧ w'.cell? ⟨w.heap.size, 1, none⟩ = some (.slice qa qn qc) ∧ w'.cell? ⟨w.heap.size, 2, none⟩ = some (.int .i64 qm) ∧ w'.cell? ⟨w.heap.size, 3, none⟩ = some (.slice ra C.fs.length rc)) ∧ w.heap.size < w'.heap.size) := Lib.hid (fun w' hb => by
    obtain ⟨y0, y1, y2, y3, _⟩ := blk4 (blk_below BW hb); exact ⟨⟨y0, y1, y2, y3⟩, (blk_below BW hb).1⟩)
  clear hW GW hBW RW c0 c1 c2 c3 cf BW HX1 hl1 HCM HB1
  have HCF := Lib.hid (cut27_any (.slice va Fx.length vc) Fx W (facR_below HF.out HBW.out))
  rw [← HF2.out] at HCF
  go_wp2_with fail
  refine HCF.out.mono ?_
  rintro e w2 ⟨a2, c2, rfl, hf2, hb2⟩
  have HFR2 := Lib.hid hf2; have HB2 := Lib.hid hb2
  clear hf2 hb2 HCF
  go_upto_if 19 with fail
  go_cut [1] (fun x wx => ∃ (F3 : FxM) (a3 : Option Addr) (c3 : Nat), x = .slice a3 F3.length c3 ∧ Hid (FacR wx (.slice a3 F3.length c3) F3) ∧ Hid (FxOk C F3) ∧ Hid (Below W.heap.size W wx))
  case first =>
    cases own
    · go_wp2_with fail
      go_meet
      case rel => exact ⟨F2, a2, c2, rfl, HFR2, HOK2, HB2⟩
    · obtain ⟨⟨c0, c1, c2', c3⟩, cz⟩ := HK.out w2 HB2.out
      have HCK := Lib.hid (rcheck_fx ⟨qu, ⟨qa, qn, qc⟩, qm, ⟨ra, C.fs.length, rc⟩⟩ C w2 (readP_below HR.out HB2.out) HSM.out)
      have HOK3 := Lib.hid (fxOk_check HSM.out)
      obtain ⟨F3, hF3⟩ : ∃ F3, F3 = factsOf (checkM C) := ⟨_, rfl⟩
      rw [← hF3] at HCK HOK3
      clear hF3
      go_wp2_with fail
      refine HCK.out.mono ?_
      rintro e w3 ⟨a3, c3, x, y, z, rfl, hf3, _, _, hb3⟩
      have HFR3 := Lib.hid hf3
      have HB3 := Lib.hid (b_call HB2.out hb3)
      clear hf3 hb3
      go_wp2_with fail
      go_meet
      case rel => exact ⟨F3, a3, c3, rfl, HFR3, HOK3, HB3⟩
  case rest =>
  obtain ⟨F3, a3, c3, rfl, HF3, HOK, HB3⟩ := hcut
  obtain ⟨W3, hW3⟩ : ∃ x, x = wc := ⟨_, rfl⟩
  subst hW3
  obtain ⟨⟨c0, c1, c2', c3'⟩, cz⟩ := HK.out W3 HB3.out
  go_wp2_with fail
  refine (ours25_any ⟨qu, ⟨qa, qn, qc⟩, qm, ⟨ra, C.fs.length, rc⟩⟩ C _ (readP_below HR.out HB3.out) HSM.out).mono ?_
  rintro e w4 ⟨o, rfl, ho, hb4⟩
  have HO := Lib.hid ho
  have HB4 := Lib.hid (b_call HB3.out hb4)
  have HFR4 := Lib.hid (facR_below HF3.out hb4)
  clear ho hb4 c0 c1 c2' c3' cz
  go_wp2_with fail
  refine (ours27_any (.slice a3 F3.length c3) F3 w4 HFR4.out HOK.out.f HOK.out.c).mono ?_
  rintro e w5 ⟨a5, c5, rfl, hf5, hb5⟩
  have HB5 := Lib.hid (b_call HB4.out hb5)
  have HM := Lib.hid (mof_any o C (.slice a5 F3.length c5) F3 f a w5 (readP_below HO.out hb5) HSM.out hf5 HOK.out.k)
  have HFR5 := Lib.hid (facR_below HFR4.out hb5)
  clear hf5 hb5
  go_wp2_with fail
  refine HM.out.mono ?_
  rintro e w6 ⟨he, hb6⟩
  have HB6 := Lib.hid (b_call HB5.out hb6)
  have HFR6 := Lib.hid (facR_below HFR5.out hb6)
  clear hb6 HM
  cases hB : metB C F3 f a with
  | false =>
    rw [if_neg (by rw [hB]; decide)] at he
    subst he
    have HBF := Lib.hid hB
    clear hB
    go_upto_region 6 with fail
    refine wp_named ?_
    intro W7 hW7
    have S7 : Blk W7 w6.heap.size [.slice none 0 0, .slice none 0 0] ∧ Below w6.heap.size w6 W7 := by
      first
      | (rw [hW7]; exact ⟨blk_new _ _ _, b_alloc (Below.refl _ _) _⟩)
      | exact store2 rfl hW7
    have HX7 := Lib.hid S7.1
    have HB7 := Lib.hid (b_call HB6.out S7.2)
    have HMT := Lib.hid (rmet_any ⟨qu, ⟨qa, qn, qc⟩, qm, ⟨ra, C.fs.length, rc⟩⟩ C (.slice a3 F3.length c3) F3 f a W7 (readP_below HR.out HB7.out) (facR_below HFR6.out S7.2))
    rw [HBF.out] at HMT
    obtain ⟨⟨c0, c1, c2', c3'⟩, cz⟩ := HK.out W7 HB7.out
    clear hW7 S7
    go_wp2_with fail
    refine HMT.out.mono ?_
    rintro e w8 ⟨rfl, hb8⟩
    have HB8 := Lib.hid (b_call HB7.out hb8)
    obtain ⟨x0, x1, _⟩ := blk2 (blk_below HX7.out hb8)
    have xz := (blk_below HX7.out hb8).1
    have HSA := Lib.hid (msame_any ⟨none, 0, 0⟩ ⟨none, 0, 0⟩ ⟨none, 0, 0⟩ ⟨none, 0, 0⟩ [] [] [] [] w8 (readI_nil _) (readI_nil _) (readI_nil _) (readI_nil _) (by simp) (by simp) (by simp) (by simp))
    rw [show bothB [] [] [] [] = true from rfl] at HSA
    clear hb8 c0 c1 c2' c3' cz
    go_wp2_with fail
    refine HSA.out.mono ?_
    rintro e w9 ⟨rfl, hb9⟩
    have HB9 := Lib.hid (b_call HB8.out hb9)
    clear hb9 x0 x1 xz
    go_wp2_with fail
    refine (awake27 _).mono ?_
    rintro e w10 ⟨rfl, hb10⟩
    have HB10 := Lib.hid (b_call HB9.out hb10)
    clear hb10
    go_wp2_with fail
    go_ret
    exact ⟨rfl, b_call HBW.out HB10.out⟩
  | true =>
    rw [if_pos hB] at he
    obtain ⟨⟨sa, sn, sc⟩, ⟨ta, tn, tc⟩, rfl, hs1, hs2⟩ := he
    simp only
    obtain ⟨i, j, rfl, rfl, hi, hx, hj1, hj2⟩ := met_true hB
    have HBT := Lib.hid hB
    have hgP : C.fs.getD i fzM = C.fs[i] := getD_at hi _
    have hgF : F3.getD i [] = F3[i] := getD_at hx _
    rw [hgP] at hj1
    rw [hgF] at hj2
    obtain ⟨b2, o2, ea, hb2, ⟨⟨pa, pn, pc⟩, ⟨la, ln, lc⟩, r, ⟨ca, cn, cc⟩⟩, hd, e0, e1, e2, e3⟩ := fn_at HR.out hi
    have hsm := HSM.out.a _ (List.getElem_mem hi)
    have hvr := hd.r
    simp only at ea e0 e1 e2 e3 hvr
    rw [← hvr] at e2
    subst ea
    obtain ⟨PS, hPS⟩ : ∃ PS, PS = C.fs[i].ps := ⟨_, rfl⟩
    obtain ⟨LS, hLS⟩ : ∃ LS, LS = C.fs[i].ls := ⟨_, rfl⟩
    have HLEN : Hid (PS.length ≤ 10 ∧ LS.length ≤ 10) := Lib.hid ⟨by rw [hPS]; exact hsm.p, by rw [hLS]; exact hsm.l⟩
    have HPSW : Hid (ReadI W (.slice pa pn pc) PS) := Lib.hid (by rw [hPS]; exact hd.p)
    have HLSW : Hid (ReadI W (.slice la ln lc) LS) := Lib.hid (by rw [hLS]; exact hd.l)
    obtain ⟨XS, hXS⟩ : ∃ XS, XS = PS ++ LS := ⟨_, rfl⟩
    have HXS := Lib.hid hXS
    have HXL : Hid (XS.length ≤ 17592186044415) := Lib.hid (by rw [hXS, List.length_append]; have := HLEN.out; omega)
    obtain ⟨RA, hRA⟩ : ∃ RA, RA = refsL XS := ⟨_, rfl⟩
    obtain ⟨KS, hKS⟩ : ∃ KS, KS = (factM F3 i j).2 := ⟨_, rfl⟩
    obtain ⟨RB, hRB⟩ : ∃ RB, RB = refsL KS := ⟨_, rfl⟩
    have HKL : Hid (KS.length ≤ 17592186044415) := Lib.hid (by rw [hKS]; exact HOK.out.k i j)
    have hKF : KS = F3[i][j].2 := by rw [hKS]; unfold factM; rw [hgF, getD_at hj2]
    have hs1 : ReadI w6 (.slice sa sn sc) RA := by
      have z : ReadI w6 (.slice sa sn sc) (refsL ((C.fs.getD i fzM).ps ++ (C.fs.getD i fzM).ls)) := hs1
      rw [hgP, ← hPS, ← hLS, ← hXS, ← hRA] at z
      exact z
    have hs2 : ReadI w6 (.slice ta tn tc) RB := by
      have z : ReadI w6 (.slice ta tn tc) (refsL (factM F3 i j).2) := hs2
      rw [← hKS, ← hRB] at z
      exact z
    have HRA := Lib.hid hRA; have HRB := Lib.hid hRB
    have HS1 := Lib.hid hs1; have HS2 := Lib.hid hs2
    have HRAL : Hid (RA.length ≤ 4611686018427387904) := Lib.hid (by rw [hRA]; have := refsF_len XS 0; have := HXL.out; show (refsF XS 0).length ≤ _; omega)
    have HRBL : Hid (RB.length ≤ 4611686018427387904) := Lib.hid (by rw [hRB]; have := refsF_len KS 0; have := HKL.out; show (refsF KS 0).length ≤ _; omega)
    have HEE := Lib.hid (And.intro hb2 (And.intro e0 (And.intro e1 (And.intro e2 e3))))
    have HJX := Lib.hid (And.intro hx hj2)
    have HKF := Lib.hid hKF
    have i0 : (0 : Int) ≤ i := by omega
    have i1 : (i : Int) < C.fs.length := by omega
    have ic : (i : Int) < rc := by omega
    have ix : (i : Int) < F3.length := by omega
    have j0 : (0 : Int) ≤ j := by omega
    clear hgP hgF hsm hvr hd hPS hLS hXS hRA hKS hRB hKF hB hj1 e0 e1 e2 e3 hb2
    clear hs1 hs2
    go_upto_region 6 with fail
    refine wp_named ?_
    intro W7 hW7
    have S7 : Blk W7 w6.heap.size [.slice sa sn sc, .slice ta tn tc] ∧ Below w6.heap.size w6 W7 := by
      first
      | (rw [hW7]; exact ⟨blk_new _ _ _, b_alloc (Below.refl _ _) _⟩)
      | exact store2 rfl hW7
    have HX7 := Lib.hid S7.1
    have HB67 := Lib.hid S7.2
    have HB7 := Lib.hid (b_call HB6.out S7.2)
    have HFR7 := Lib.hid (facR_below HFR6.out S7.2)
    have HMT := Lib.hid (rmet_any ⟨qu, ⟨qa, qn, qc⟩, qm, ⟨some ⟨b2, o2, none⟩, C.fs.length, rc⟩⟩ C (.slice a3 F3.length c3) F3 i j W7 (readP_below HR.out HB7.out) HFR7.out)
    rw [HBT.out] at HMT
    obtain ⟨⟨c0, c1, c2', c3'⟩, cz⟩ := HK.out W7 HB7.out
    clear hW7 S7
    go_wp2_with fail
    refine HMT.out.mono ?_
    rintro e w8 ⟨rfl, hb8⟩
    have HB78 := Lib.hid hb8
    have HB8' := Lib.hid (b_call HB7.out hb8)
    clear hb8 c0 c1 c2' c3' cz
    obtain ⟨⟨c0, c1, c2', c3'⟩, cz⟩ := HK.out w8 HB8'.out
    have hbw := b_call HBW.out HB8'.out
    have hbc := (bcell HB8'.out).1
    have dz := Nat.lt_of_lt_of_le HEE.out.1 HB8'.out.size
    have d0 := (hbc _ _ HEE.out.1).trans HEE.out.2.1
    have d1 := (hbc _ _ HEE.out.1).trans HEE.out.2.2.1
    have d2 := (hbc _ _ HEE.out.1).trans HEE.out.2.2.2.1
    have d3 := (hbc _ _ HEE.out.1).trans HEE.out.2.2.2.2
    go_upto_region 9 with fail
    refine wp_named ?_
    intro W8 hW8
    have S8 : Blk W8 w8.heap.size [.slice pa pn pc, .slice la ln lc, .int .i64 r, .slice ca cn cc] ∧ Below w8.heap.size w8 W8 := by
      first
      | (rw [hW8]; exact ⟨blk_new _ _ _, b_alloc (Below.refl _ _) _⟩)
      | exact m_store4 rfl hW8
    have HG8 := Lib.hid S8.1
    have HB8 := Lib.hid (b_call HB8'.out S8.2)
    have HB78' := Lib.hid (b_call HB78.out S8.2)
    have HFR8 := Lib.hid (facR_below HFR7.out HB78'.out)
    obtain ⟨fb, fo, s, ea, hfb, hfc, hfl⟩ := facR_at HFR8.out HJX.out.1
    subst ea
    obtain ⟨sn', sc1, sc2⟩ := facL_form hfl
    obtain ⟨kb, ko, v4, ea4, hkb, _, hk1, hkr⟩ := facL_at hfl HJX.out.2
    rw [ea4, sn'] at hfc
    have jx : (j : Int) < F3[i].length := by have := HJX.out.2; omega
    have jc : (j : Int) < s.c := by omega
    rw [← HKF.out] at hkr
    have c3cap : F3.length ≤ c3 := by obtain ⟨_, cc9, e9, h9, _⟩ := facR_form HFR8.out; injection e9 with _ _ e9; omega
    have ixc : (i : Int) < c3 := by omega
    have HPS : Hid (ReadI W8 (.slice pa pn pc) PS) := Lib.hid (readI_below HPSW.out HB8.out)
    have HLS : Hid (ReadI W8 (.slice la ln lc) LS) := Lib.hid (readI_below HLSW.out HB8.out)
    have HKR : Hid (ReadI W8 (.slice v4.a v4.n v4.c) KS) := Lib.hid hkr
    have HS : Hid (∀ w', Below W8.heap.size W8 w' → (w'.cell? ⟨w8.heap.size, 0, none⟩ = some (.slice pa pn pc) ∧ w'.cell? ⟨w8.heap.size, 1, none⟩ = some (.slice la ln lc)) ∧ w'.cell? ⟨fb, fo + i, none⟩ = some (.slice (some ⟨kb, ko, none⟩) F3[i].length s.c) ∧ w'.cell? ⟨kb, ko + j * 2 + 1, none⟩ = some (.slice v4.a v4.n v4.c)) := Lib.hid (fun w' hb => by
      obtain ⟨y0, y1, _⟩ := blk4 (blk_below S8.1 hb)
      have hc := (bcell hb).1
      exact ⟨⟨y0, y1⟩, (hc _ _ hfb).trans hfc, (hc _ _ hkb).trans hk1⟩)
    obtain ⟨NF, hNF⟩ : ∃ NF, NF = F3[i].length := ⟨_, rfl⟩
    rw [← hNF] at HS jx
    clear hNF
    clear hW8 S8 c0 c1 c2' c3' cz hbw hbc dz d0 d1 d2 d3 hfc hfb hkb hk1 hkr hfl sn' sc1 sc2 ea4
    go_cut [14] (fun x wx => ∃ (X : Nat) (a7 : Option Addr) (k7 : Nat) (a8 : Option Addr) (k8 : Nat), x = .pointer (some ⟨X, 0, none⟩) ∧ Hid (Blk wx X [.slice a7 RA.length k7, .slice a8 RB.length k8]) ∧ Hid (ReadI wx (.slice a7 RA.length k7) RA) ∧ Hid (ReadI wx (.slice a8 RB.length k8) RB) ∧ Hid (Below W8.heap.size W8 wx))
    case first =>
      refine wp_region_held_drew (S := fun w' => (w'.cell? ⟨w8.heap.size, 0, none⟩ = some (.slice pa pn pc) ∧ w'.cell? ⟨w8.heap.size, 1, none⟩ = some (.slice la ln lc)) ∧ w'.cell? ⟨fb, fo + i, none⟩ = some (.slice (some ⟨kb, ko, none⟩) NF s.c) ∧ w'.cell? ⟨kb, ko + j * 2 + 1, none⟩ = some (.slice v4.a v4.n v4.c)) (by kernel_rfl) (HS.out _ (b_drew (Below.refl _ _))) (fun hHeld => ?_)
      refine atI 1 ?_
      iterate 2 (refine takeN (v := ?_) rfl (by rfl) ?_ hHeld ?_; rotate_left; (focus (intro w hSw; (try dsimp only at hSw); go_simp; try (with_reducible rfl))); (try simp only [Act.put, Nat.reduceAdd, List.getElem_toArray, List.getElem_cons_succ, List.getElem_cons_zero, List.setIfInBounds_toArray, List.set_cons_zero, List.set_cons_succ]))
      refine atIo ?_
      refine atI 4 ?_
      iterate 2 (refine takeN (v := ?_) rfl (by rfl) ?_ hHeld ?_; rotate_left; (focus (intro w hSw; (try dsimp only at hSw); go_simp; try (with_reducible rfl))); (try simp only [Act.put, Nat.reduceAdd, List.getElem_toArray, List.getElem_cons_succ, List.getElem_cons_zero, List.setIfInBounds_toArray, List.set_cons_zero, List.set_cons_succ]))
      refine atIo ?_
      refine atI 8 ?_
      iterate 8 (refine takeN (v := ?_) rfl (by rfl) ?_ hHeld ?_; rotate_left; (focus (intro w hSw; (try dsimp only at hSw); go_simp; try (with_reducible rfl))); (try simp only [Act.put, Nat.reduceAdd, List.getElem_toArray, List.getElem_cons_succ, List.getElem_cons_zero, List.setIfInBounds_toArray, List.set_cons_zero, List.set_cons_succ]))
      refine atIo ?_
      refine wpAnyH_named ?_
      intro q0 hq0
      have HBq0 : Hid (Below W8.heap.size W8 q0) := Lib.hid (by rw [hq0]; exact b_drew (Below.refl _ _))
      clear hq0
      replace hHeld := HS.out _ HBq0.out
      --R9
      refine wpAnyH_ready (rs := [0, 18]) (by kernel_rfl) (by simp) (AllReadyH.cons rfl (fun K hK => ?_) (AllReadyH.cons rfl (fun K hK => ?_) AllReadyH.nil))
      · skip
        go_simp
        refine hK.out _ _ (HS.out _ (b_alloc HBq0.out _)) (fun hHeld => ?_)
        clear hK K
        (try simp only [Act.put, List.getElem_toArray, List.getElem_cons_succ, List.getElem_cons_zero, List.setIfInBounds_toArray, List.set_cons_zero, List.set_cons_succ])
        refine wpAnyH_named ?_
        intro q1 hq1
        have HBq1 : Hid (Below W8.heap.size W8 q1) := Lib.hid (by rw [hq1]; exact b_alloc HBq0.out _)
        have OWq1 : Hid (OwnR intE 3 q1 W8.heap.size (.slice (some ⟨q0.heap.size, 0, none⟩) 0 0) []) := Lib.hid (by rw [hq1]; exact own_emptyR HBq0.out.size)
        clear hq1
        replace hHeld := HS.out _ HBq1.out
        refine wpAnyH_ready (rs := [3, 18]) (by kernel_rfl) (by simp) (AllReadyH.cons rfl (fun K hK => ?_) (AllReadyH.cons rfl (fun K hK => ?_) AllReadyH.nil))
        · skip
          refine step_appendR rowInt (by rfl) _ _ (by rfl) W8.heap.size _ [] (by rfl) OWq1.out _ PS (by rfl) (readI_R (readI_below HPS.out HBq1.out)) (by have := HLEN.out; simp only [List.length_nil]; omega) (by have := HLEN.out; simp only [List.length_nil]; unfold maxLen; omega) HBq1.out.size ?_
          intro vq2 q2 ownq2 hgq2
          rw [List.nil_append] at ownq2
          have HBq2 := Lib.hid (b_ownR HBq1.out OWq1.out hgq2)
          have OWq2 := Lib.hid ownq2
          clear ownq2 hgq2
          refine hK.out _ _ (HS.out _ HBq2.out) (fun hHeld => ?_)
          clear hK K
          (try simp only [Act.put, List.getElem_toArray, List.getElem_cons_succ, List.getElem_cons_zero, List.setIfInBounds_toArray, List.set_cons_zero, List.set_cons_succ])
          refine wpAnyH_ready (rs := [6, 18]) (by kernel_rfl) (by simp) (AllReadyH.cons rfl (fun K hK => ?_) (AllReadyH.cons rfl (fun K hK => ?_) AllReadyH.nil))
          · skip
            refine step_appendR rowInt (by rfl) _ _ (by rfl) W8.heap.size _ PS (by rfl) OWq2.out _ LS (by rfl) (readI_R (readI_below HLS.out HBq2.out)) (by have := HLEN.out; omega) (by have := HLEN.out; unfold maxLen; omega) HBq2.out.size ?_
            intro vq3 q3 ownq3 hgq3
            rw [← HXS.out] at ownq3
            have HBq3 := Lib.hid (b_ownR HBq2.out OWq2.out hgq3)
            have OWq3 := Lib.hid ownq3
            obtain ⟨laq3, lcq3, hvq3, _, _⟩ := readR_len (ownR_read OWq3.out)
            subst hvq3
            clear ownq3 hgq3
            refine hK.out _ _ (HS.out _ HBq3.out) (fun hHeld => ?_)
            clear hK K
            (try simp only [Act.put, List.getElem_toArray, List.getElem_cons_succ, List.getElem_cons_zero, List.setIfInBounds_toArray, List.set_cons_zero, List.set_cons_succ])
            refine wpAnyH_ready (rs := [7, 18]) (by kernel_rfl) (by simp) (AllReadyH.cons rfl (fun K hK => ?_) (AllReadyH.cons rfl (fun K hK => ?_) AllReadyH.nil))
            · skip
              go_simp
              have HMq4 := Lib.hid (rrefs_ty _ XS q3 (readR_I (ownR_read OWq3.out)) HXL.out)
              rw [← HRA.out] at HMq4
              refine HMq4.out.mono ?_
              rintro e q4 ⟨a7, k7, rfl, hr7, ho7, hb7⟩
              have HR7 := Lib.hid hr7; have HO7 := Lib.hid ho7
              have HBq4 := Lib.hid (b_call HBq3.out hb7)
              clear hr7 hb7 ho7 HMq4
              refine hK.out _ _ (HS.out _ HBq4.out) (fun hHeld => ?_)
              clear hK K
              (try simp only [Act.put, List.getElem_toArray, List.getElem_cons_succ, List.getElem_cons_zero, List.setIfInBounds_toArray, List.set_cons_zero, List.set_cons_succ])
              refine wpAnyH_ready (rs := [16, 18]) (by kernel_rfl) (by simp) (AllReadyH.cons rfl (fun K hK => ?_) (AllReadyH.cons rfl (fun K hK => ?_) AllReadyH.nil))
              · skip
                go_simp
                have HMq5 := Lib.hid (rrefs_ty _ KS q4 (readI_below HKR.out HBq4.out) HKL.out)
                rw [← HRB.out] at HMq5
                refine HMq5.out.mono ?_
                rintro e q5 ⟨a8, k8, rfl, hr8, ho8, hb8⟩
                have HR8 := Lib.hid hr8; have HO8 := Lib.hid ho8
                have HBq5 := Lib.hid (b_call HBq4.out hb8)
                have HR7 := Lib.hid (readI_below HR7.out hb8)
                have HO7 : Hid (∀ k, (Value.slice a7 RA.length k7).ownBlock = some k → tyB q5 k = some 3) := Lib.hid (fun k hk => tyB_call (HO7.out k hk) hb8)
                clear hr8 hb8 ho8 HMq5
                refine hK.out _ _ (HS.out _ HBq5.out) (fun hHeld => ?_)
                clear hK K
                (try simp only [Act.put, List.getElem_toArray, List.getElem_cons_succ, List.getElem_cons_zero, List.setIfInBounds_toArray, List.set_cons_zero, List.set_cons_succ])
                (refine wpAnyH_take (i := 17) (v := ?_) rfl (by kernel_rfl) (by kernel_rfl) (by kernel_rfl) (fun _ _ _ h => h) (Or.inl ⟨by rfl, ?_⟩) hHeld ?_; rotate_left; (focus (intro w hSw; (try dsimp only at hSw); go_simp; try (with_reducible rfl))); (try simp only [Act.put, List.getElem_toArray, List.getElem_cons_succ, List.getElem_cons_zero, List.setIfInBounds_toArray, List.set_cons_zero, List.set_cons_succ]))
                refine wpAnyH_ready (rs := [18]) (by kernel_rfl) (by simp) (AllReadyH.cons rfl (fun K hK => ?_) AllReadyH.nil)
                go_simp
                refine hK.out _ _ (HS.out _ (b_alloc HBq5.out _)) (fun hHeld => ?_)
                clear hK K
                (try simp only [Act.put, List.getElem_toArray, List.getElem_cons_succ, List.getElem_cons_zero, List.setIfInBounds_toArray, List.set_cons_zero, List.set_cons_succ])
                refine wpAnyH_named ?_
                intro q6 hq6
                have HBq6 : Hid (Below W8.heap.size W8 q6) := Lib.hid (by rw [hq6]; exact b_alloc HBq5.out _)
                have HXW0 : Hid (W8.heap.size ≤ q5.heap.size) := Lib.hid HBq5.out.size
                obtain ⟨X, hX⟩ : ∃ X, X = q5.heap.size := ⟨_, rfl⟩
                rw [← hX] at HXW0 ⊢
                have HXq6 : Hid (tyB q6 X = some MAPT ∧ Blk q6 X [.slice none 0 0, .slice none 0 0]) := Lib.hid (by rw [hq6]; exact ⟨tyB_new2 hX, blk_new9 hX⟩)
                have HR7 := Lib.hid (show ReadI q6 _ _ by rw [hq6]; exact readI_below HR7.out (b_alloc (Below.refl _ _) _))
                have HO7 : Hid (∀ k, (Value.slice a7 RA.length k7).ownBlock = some k → tyB q6 k = some 3) := Lib.hid (fun k hk => by rw [hq6]; exact tyB_alloc (HO7.out k hk) _)
                have HR8 := Lib.hid (show ReadI q6 _ _ by rw [hq6]; exact readI_below HR8.out (b_alloc (Below.refl _ _) _))
                have HO8 : Hid (∀ k, (Value.slice a8 RB.length k8).ownBlock = some k → tyB q6 k = some 3) := Lib.hid (fun k hk => by rw [hq6]; exact tyB_alloc (HO8.out k hk) _)
                clear hq6 hX
                replace hHeld := HS.out _ HBq6.out
                obtain ⟨c0, c1, cf⟩ := blk2 HXq6.out.2
                have cz := HXq6.out.2.1
                refine wpAnyH_ready (rs := [19]) (by kernel_rfl) (by simp) (AllReadyH.cons rfl (fun K hK => ?_) AllReadyH.nil)
                go_simp
                have HXW := HXW0
                refine hK.out _ _ (HS.out _ (b_set (b_set HBq6.out (p := ⟨X, 0, none⟩) HXW.out _) (p := ⟨X, 1, none⟩) HXW.out _)) (fun hHeld => ?_)
                clear hK K
                (try simp only [Act.put, List.getElem_toArray, List.getElem_cons_succ, List.getElem_cons_zero, List.setIfInBounds_toArray, List.set_cons_zero, List.set_cons_succ])
                refine wpAnyH_done (by kernel_rfl) ?_ _
                refine then_named ?_
                intro w9 hw9
                have g9 : q6.grownBy w9 (some X) ∧ Blk w9 X [.slice a7 RA.length k7, .slice a8 RB.length k8] := by
                  subst hw9
                  exact ⟨gb_set (gb_set (gb_refl _ (some X)) _ _ _) _ _ _, blk_set (blk_set HXq6.out.2 0 (.slice a7 RA.length k7)) 1 (.slice a8 RB.length k8)⟩
                obtain ⟨g9, u9⟩ := g9
                clear hw9 c0 c1 cf cz
                go_wp2_with fail
                go_meet
                case rel =>
                  refine ⟨X, a7, k7, a8, k8, rfl, Lib.hid u9, Lib.hid ?_, Lib.hid ?_, Lib.hid (b_grown HBq6.out g9 HXW.out)⟩
                  · exact readI_gb HR7.out g9 (fun k hk e => by injection e with e; subst e; have z := HO7.out k hk; rw [HXq6.out.1] at z; injection z with z; exact absurd z (by decide))
                  · exact readI_gb HR8.out g9 (fun k hk e => by injection e with e; subst e; have z := HO8.out k hk; rw [HXq6.out.1] at z; injection z with z; exact absurd z (by decide))
              · skip
                go_simp
                refine hK.out _ _ (HS.out _ (b_alloc HBq4.out _)) (fun hHeld => ?_)
                clear hK K
                (try simp only [Act.put, List.getElem_toArray, List.getElem_cons_succ, List.getElem_cons_zero, List.setIfInBounds_toArray, List.set_cons_zero, List.set_cons_succ])
                refine wpAnyH_named ?_
                intro q7 hq7
                have HBq7 : Hid (Below W8.heap.size W8 q7) := Lib.hid (by rw [hq7]; exact b_alloc HBq4.out _)
                have HXW0 : Hid (W8.heap.size ≤ q4.heap.size) := Lib.hid HBq4.out.size
                obtain ⟨X, hX⟩ : ∃ X, X = q4.heap.size := ⟨_, rfl⟩
                rw [← hX] at HXW0 ⊢
                have HXq7 : Hid (tyB q7 X = some MAPT ∧ Blk q7 X [.slice none 0 0, .slice none 0 0]) := Lib.hid (by rw [hq7]; exact ⟨tyB_new2 hX, blk_new9 hX⟩)
                have HR7 := Lib.hid (show ReadI q7 _ _ by rw [hq7]; exact readI_below HR7.out (b_alloc (Below.refl _ _) _))
                have HO7 : Hid (∀ k, (Value.slice a7 RA.length k7).ownBlock = some k → tyB q7 k = some 3) := Lib.hid (fun k hk => by rw [hq7]; exact tyB_alloc (HO7.out k hk) _)
                clear hq7 hX
                replace hHeld := HS.out _ HBq7.out
                refine wpAnyH_ready (rs := [16]) (by kernel_rfl) (by simp) (AllReadyH.cons rfl (fun K hK => ?_) AllReadyH.nil)
                go_simp
                have HMq8 := Lib.hid (rrefs_ty _ KS q7 (readI_below HKR.out HBq7.out) HKL.out)
                rw [← HRB.out] at HMq8
                refine HMq8.out.mono ?_
                rintro e q8 ⟨a8, k8, rfl, hr8, ho8, hb8⟩
                have HR8 := Lib.hid hr8; have HO8 := Lib.hid ho8
                have HBq8 := Lib.hid (b_call HBq7.out hb8)
                have HR7 := Lib.hid (readI_below HR7.out hb8)
                have HO7 : Hid (∀ k, (Value.slice a7 RA.length k7).ownBlock = some k → tyB q8 k = some 3) := Lib.hid (fun k hk => tyB_call (HO7.out k hk) hb8)
                have HXq8 : Hid (tyB q8 X = some MAPT ∧ Blk q8 X [.slice none 0 0, .slice none 0 0]) := Lib.hid ⟨tyB_call HXq7.out.1 hb8, blk_below HXq7.out.2 hb8⟩
                clear hr8 hb8 ho8 HMq8
                refine hK.out _ _ (HS.out _ HBq8.out) (fun hHeld => ?_)
                clear hK K
                (try simp only [Act.put, List.getElem_toArray, List.getElem_cons_succ, List.getElem_cons_zero, List.setIfInBounds_toArray, List.set_cons_zero, List.set_cons_succ])
                (refine wpAnyH_take (i := 17) (v := ?_) rfl (by kernel_rfl) (by kernel_rfl) (by kernel_rfl) (fun _ _ _ h => h) (Or.inl ⟨by rfl, ?_⟩) hHeld ?_; rotate_left; (focus (intro w hSw; (try dsimp only at hSw); go_simp; try (with_reducible rfl))); (try simp only [Act.put, List.getElem_toArray, List.getElem_cons_succ, List.getElem_cons_zero, List.setIfInBounds_toArray, List.set_cons_zero, List.set_cons_succ]))
                obtain ⟨c0, c1, cf⟩ := blk2 HXq8.out.2
                have cz := HXq8.out.2.1
                refine wpAnyH_ready (rs := [19]) (by kernel_rfl) (by simp) (AllReadyH.cons rfl (fun K hK => ?_) AllReadyH.nil)
                go_simp
                have HXW := HXW0
                refine hK.out _ _ (HS.out _ (b_set (b_set HBq8.out (p := ⟨X, 0, none⟩) HXW.out _) (p := ⟨X, 1, none⟩) HXW.out _)) (fun hHeld => ?_)
                clear hK K
                (try simp only [Act.put, List.getElem_toArray, List.getElem_cons_succ, List.getElem_cons_zero, List.setIfInBounds_toArray, List.set_cons_zero, List.set_cons_succ])
                refine wpAnyH_done (by kernel_rfl) ?_ _
                refine then_named ?_
                intro w9 hw9
                have g9 : q8.grownBy w9 (some X) ∧ Blk w9 X [.slice a7 RA.length k7, .slice a8 RB.length k8] := by
                  subst hw9
                  exact ⟨gb_set (gb_set (gb_refl _ (some X)) _ _ _) _ _ _, blk_set (blk_set HXq8.out.2 0 (.slice a7 RA.length k7)) 1 (.slice a8 RB.length k8)⟩
                obtain ⟨g9, u9⟩ := g9
                clear hw9 c0 c1 cf cz
                go_wp2_with fail
                go_meet
                case rel =>
                  refine ⟨X, a7, k7, a8, k8, rfl, Lib.hid u9, Lib.hid ?_, Lib.hid ?_, Lib.hid (b_grown HBq8.out g9 HXW.out)⟩
                  · exact readI_gb HR7.out g9 (fun k hk e => by injection e with e; subst e; have z := HO7.out k hk; rw [HXq8.out.1] at z; injection z with z; exact absurd z (by decide))
                  · exact readI_gb HR8.out g9 (fun k hk e => by injection e with e; subst e; have z := HO8.out k hk; rw [HXq8.out.1] at z; injection z with z; exact absurd z (by decide))
            · skip
              go_simp
              refine hK.out _ _ (HS.out _ (b_alloc HBq3.out _)) (fun hHeld => ?_)
              clear hK K
              (try simp only [Act.put, List.getElem_toArray, List.getElem_cons_succ, List.getElem_cons_zero, List.setIfInBounds_toArray, List.set_cons_zero, List.set_cons_succ])
              refine wpAnyH_named ?_
              intro q9 hq9
              have HBq9 : Hid (Below W8.heap.size W8 q9) := Lib.hid (by rw [hq9]; exact b_alloc HBq3.out _)
              have HXW0 : Hid (W8.heap.size ≤ q3.heap.size) := Lib.hid HBq3.out.size
              obtain ⟨X, hX⟩ : ∃ X, X = q3.heap.size := ⟨_, rfl⟩
              rw [← hX] at HXW0 ⊢
              have HXq9 : Hid (tyB q9 X = some MAPT ∧ Blk q9 X [.slice none 0 0, .slice none 0 0]) := Lib.hid (by rw [hq9]; exact ⟨tyB_new2 hX, blk_new9 hX⟩)
              have OWq9 := Lib.hid (show OwnR intE 3 q9 W8.heap.size _ _ by rw [hq9]; exact ownR_alloc OWq3.out _)
              clear hq9 hX
              replace hHeld := HS.out _ HBq9.out
              refine wpAnyH_ready (rs := [7]) (by kernel_rfl) (by simp) (AllReadyH.cons rfl (fun K hK => ?_) AllReadyH.nil)
              go_simp
              have HMq10 := Lib.hid (rrefs_ty _ XS q9 (readR_I (ownR_read OWq9.out)) HXL.out)
              rw [← HRA.out] at HMq10
              refine HMq10.out.mono ?_
              rintro e q10 ⟨a7, k7, rfl, hr7, ho7, hb7⟩
              have HR7 := Lib.hid hr7; have HO7 := Lib.hid ho7
              have HBq10 := Lib.hid (b_call HBq9.out hb7)
              have HXq10 : Hid (tyB q10 X = some MAPT ∧ Blk q10 X [.slice none 0 0, .slice none 0 0]) := Lib.hid ⟨tyB_call HXq9.out.1 hb7, blk_below HXq9.out.2 hb7⟩
              clear hr7 hb7 ho7 HMq10
              refine hK.out _ _ (HS.out _ HBq10.out) (fun hHeld => ?_)
              clear hK K
              (try simp only [Act.put, List.getElem_toArray, List.getElem_cons_succ, List.getElem_cons_zero, List.setIfInBounds_toArray, List.set_cons_zero, List.set_cons_succ])
              refine wpAnyH_ready (rs := [16]) (by kernel_rfl) (by simp) (AllReadyH.cons rfl (fun K hK => ?_) AllReadyH.nil)
              go_simp
              have HMq11 := Lib.hid (rrefs_ty _ KS q10 (readI_below HKR.out HBq10.out) HKL.out)
              rw [← HRB.out] at HMq11
              refine HMq11.out.mono ?_
              rintro e q11 ⟨a8, k8, rfl, hr8, ho8, hb8⟩
              have HR8 := Lib.hid hr8; have HO8 := Lib.hid ho8
              have HBq11 := Lib.hid (b_call HBq10.out hb8)
              have HR7 := Lib.hid (readI_below HR7.out hb8)
              have HO7 : Hid (∀ k, (Value.slice a7 RA.length k7).ownBlock = some k → tyB q11 k = some 3) := Lib.hid (fun k hk => tyB_call (HO7.out k hk) hb8)
              have HXq11 : Hid (tyB q11 X = some MAPT ∧ Blk q11 X [.slice none 0 0, .slice none 0 0]) := Lib.hid ⟨tyB_call HXq10.out.1 hb8, blk_below HXq10.out.2 hb8⟩
              clear hr8 hb8 ho8 HMq11
              refine hK.out _ _ (HS.out _ HBq11.out) (fun hHeld => ?_)
              clear hK K
              (try simp only [Act.put, List.getElem_toArray, List.getElem_cons_succ, List.getElem_cons_zero, List.setIfInBounds_toArray, List.set_cons_zero, List.set_cons_succ])
              (refine wpAnyH_take (i := 17) (v := ?_) rfl (by kernel_rfl) (by kernel_rfl) (by kernel_rfl) (fun _ _ _ h => h) (Or.inl ⟨by rfl, ?_⟩) hHeld ?_; rotate_left; (focus (intro w hSw; (try dsimp only at hSw); go_simp; try (with_reducible rfl))); (try simp only [Act.put, List.getElem_toArray, List.getElem_cons_succ, List.getElem_cons_zero, List.setIfInBounds_toArray, List.set_cons_zero, List.set_cons_succ]))
              obtain ⟨c0, c1, cf⟩ := blk2 HXq11.out.2
              have cz := HXq11.out.2.1
              refine wpAnyH_ready (rs := [19]) (by kernel_rfl) (by simp) (AllReadyH.cons rfl (fun K hK => ?_) AllReadyH.nil)
              go_simp
              have HXW := HXW0
              refine hK.out _ _ (HS.out _ (b_set (b_set HBq11.out (p := ⟨X, 0, none⟩) HXW.out _) (p := ⟨X, 1, none⟩) HXW.out _)) (fun hHeld => ?_)
              clear hK K
              (try simp only [Act.put, List.getElem_toArray, List.getElem_cons_succ, List.getElem_cons_zero, List.setIfInBounds_toArray, List.set_cons_zero, List.set_cons_succ])
              refine wpAnyH_done (by kernel_rfl) ?_ _
              refine then_named ?_
              intro w9 hw9
              have g9 : q11.grownBy w9 (some X) ∧ Blk w9 X [.slice a7 RA.length k7, .slice a8 RB.length k8] := by
                subst hw9
                exact ⟨gb_set (gb_set (gb_refl _ (some X)) _ _ _) _ _ _, blk_set (blk_set HXq11.out.2 0 (.slice a7 RA.length k7)) 1 (.slice a8 RB.length k8)⟩
              obtain ⟨g9, u9⟩ := g9
              clear hw9 c0 c1 cf cz
              go_wp2_with fail
              go_meet
              case rel =>
                refine ⟨X, a7, k7, a8, k8, rfl, Lib.hid u9, Lib.hid ?_, Lib.hid ?_, Lib.hid (b_grown HBq11.out g9 HXW.out)⟩
                · exact readI_gb HR7.out g9 (fun k hk e => by injection e with e; subst e; have z := HO7.out k hk; rw [HXq11.out.1] at z; injection z with z; exact absurd z (by decide))
                · exact readI_gb HR8.out g9 (fun k hk e => by injection e with e; subst e; have z := HO8.out k hk; rw [HXq11.out.1] at z; injection z with z; exact absurd z (by decide))
          · skip
            go_simp
            refine hK.out _ _ (HS.out _ (b_alloc HBq2.out _)) (fun hHeld => ?_)
            clear hK K
            (try simp only [Act.put, List.getElem_toArray, List.getElem_cons_succ, List.getElem_cons_zero, List.setIfInBounds_toArray, List.set_cons_zero, List.set_cons_succ])
            refine wpAnyH_named ?_
            intro q12 hq12
            have HBq12 : Hid (Below W8.heap.size W8 q12) := Lib.hid (by rw [hq12]; exact b_alloc HBq2.out _)
            have HXW0 : Hid (W8.heap.size ≤ q2.heap.size) := Lib.hid HBq2.out.size
            obtain ⟨X, hX⟩ : ∃ X, X = q2.heap.size := ⟨_, rfl⟩
            rw [← hX] at HXW0 ⊢
            have HXq12 : Hid (tyB q12 X = some MAPT ∧ Blk q12 X [.slice none 0 0, .slice none 0 0]) := Lib.hid (by rw [hq12]; exact ⟨tyB_new2 hX, blk_new9 hX⟩)
            have OWq12 := Lib.hid (show OwnR intE 3 q12 W8.heap.size _ _ by rw [hq12]; exact ownR_alloc OWq2.out _)
            clear hq12 hX
            replace hHeld := HS.out _ HBq12.out
            refine wpAnyH_ready (rs := [6]) (by kernel_rfl) (by simp) (AllReadyH.cons rfl (fun K hK => ?_) AllReadyH.nil)
            refine step_appendR rowInt (by rfl) _ _ (by rfl) W8.heap.size _ PS (by rfl) OWq12.out _ LS (by rfl) (readI_R (readI_below HLS.out HBq12.out)) (by have := HLEN.out; omega) (by have := HLEN.out; unfold maxLen; omega) HBq12.out.size ?_
            intro vq13 q13 ownq13 hgq13
            rw [← HXS.out] at ownq13
            have HBq13 := Lib.hid (b_ownR HBq12.out OWq12.out hgq13)
            have OWq13 := Lib.hid ownq13
            have HXq13 : Hid (tyB q13 X = some MAPT ∧ Blk q13 X [.slice none 0 0, .slice none 0 0]) := Lib.hid ⟨tyB_grown HXq12.out.1 hgq13 (fun e => ownR_ne OWq12.out HXq12.out.1 (by decide) _ e.symm rfl), blk_grown HXq12.out.2 hgq13 (fun e => ownR_ne OWq12.out HXq12.out.1 (by decide) _ e.symm rfl)⟩
            obtain ⟨laq13, lcq13, hvq13, _, _⟩ := readR_len (ownR_read OWq13.out)
            subst hvq13
            clear ownq13 hgq13
            refine hK.out _ _ (HS.out _ HBq13.out) (fun hHeld => ?_)
            clear hK K
            (try simp only [Act.put, List.getElem_toArray, List.getElem_cons_succ, List.getElem_cons_zero, List.setIfInBounds_toArray, List.set_cons_zero, List.set_cons_succ])
            refine wpAnyH_ready (rs := [7]) (by kernel_rfl) (by simp) (AllReadyH.cons rfl (fun K hK => ?_) AllReadyH.nil)
            go_simp
            have HMq14 := Lib.hid (rrefs_ty _ XS q13 (readR_I (ownR_read OWq13.out)) HXL.out)
            rw [← HRA.out] at HMq14
            refine HMq14.out.mono ?_
            rintro e q14 ⟨a7, k7, rfl, hr7, ho7, hb7⟩
            have HR7 := Lib.hid hr7; have HO7 := Lib.hid ho7
            have HBq14 := Lib.hid (b_call HBq13.out hb7)
            have HXq14 : Hid (tyB q14 X = some MAPT ∧ Blk q14 X [.slice none 0 0, .slice none 0 0]) := Lib.hid ⟨tyB_call HXq13.out.1 hb7, blk_below HXq13.out.2 hb7⟩
            clear hr7 hb7 ho7 HMq14
            refine hK.out _ _ (HS.out _ HBq14.out) (fun hHeld => ?_)
            clear hK K
            (try simp only [Act.put, List.getElem_toArray, List.getElem_cons_succ, List.getElem_cons_zero, List.setIfInBounds_toArray, List.set_cons_zero, List.set_cons_succ])
            refine wpAnyH_ready (rs := [16]) (by kernel_rfl) (by simp) (AllReadyH.cons rfl (fun K hK => ?_) AllReadyH.nil)
            go_simp
            have HMq15 := Lib.hid (rrefs_ty _ KS q14 (readI_below HKR.out HBq14.out) HKL.out)
            rw [← HRB.out] at HMq15
            refine HMq15.out.mono ?_
            rintro e q15 ⟨a8, k8, rfl, hr8, ho8, hb8⟩
            have HR8 := Lib.hid hr8; have HO8 := Lib.hid ho8
            have HBq15 := Lib.hid (b_call HBq14.out hb8)
            have HR7 := Lib.hid (readI_below HR7.out hb8)
            have HO7 : Hid (∀ k, (Value.slice a7 RA.length k7).ownBlock = some k → tyB q15 k = some 3) := Lib.hid (fun k hk => tyB_call (HO7.out k hk) hb8)
            have HXq15 : Hid (tyB q15 X = some MAPT ∧ Blk q15 X [.slice none 0 0, .slice none 0 0]) := Lib.hid ⟨tyB_call HXq14.out.1 hb8, blk_below HXq14.out.2 hb8⟩
            clear hr8 hb8 ho8 HMq15
            refine hK.out _ _ (HS.out _ HBq15.out) (fun hHeld => ?_)
            clear hK K
            (try simp only [Act.put, List.getElem_toArray, List.getElem_cons_succ, List.getElem_cons_zero, List.setIfInBounds_toArray, List.set_cons_zero, List.set_cons_succ])
            (refine wpAnyH_take (i := 17) (v := ?_) rfl (by kernel_rfl) (by kernel_rfl) (by kernel_rfl) (fun _ _ _ h => h) (Or.inl ⟨by rfl, ?_⟩) hHeld ?_; rotate_left; (focus (intro w hSw; (try dsimp only at hSw); go_simp; try (with_reducible rfl))); (try simp only [Act.put, List.getElem_toArray, List.getElem_cons_succ, List.getElem_cons_zero, List.setIfInBounds_toArray, List.set_cons_zero, List.set_cons_succ]))
            obtain ⟨c0, c1, cf⟩ := blk2 HXq15.out.2
            have cz := HXq15.out.2.1
            refine wpAnyH_ready (rs := [19]) (by kernel_rfl) (by simp) (AllReadyH.cons rfl (fun K hK => ?_) AllReadyH.nil)
            go_simp
            have HXW := HXW0
            refine hK.out _ _ (HS.out _ (b_set (b_set HBq15.out (p := ⟨X, 0, none⟩) HXW.out _) (p := ⟨X, 1, none⟩) HXW.out _)) (fun hHeld => ?_)
            clear hK K
            (try simp only [Act.put, List.getElem_toArray, List.getElem_cons_succ, List.getElem_cons_zero, List.setIfInBounds_toArray, List.set_cons_zero, List.set_cons_succ])
            refine wpAnyH_done (by kernel_rfl) ?_ _
            refine then_named ?_
            intro w9 hw9
            have g9 : q15.grownBy w9 (some X) ∧ Blk w9 X [.slice a7 RA.length k7, .slice a8 RB.length k8] := by
              subst hw9
              exact ⟨gb_set (gb_set (gb_refl _ (some X)) _ _ _) _ _ _, blk_set (blk_set HXq15.out.2 0 (.slice a7 RA.length k7)) 1 (.slice a8 RB.length k8)⟩
            obtain ⟨g9, u9⟩ := g9
            clear hw9 c0 c1 cf cz
            go_wp2_with fail
            go_meet
            case rel =>
              refine ⟨X, a7, k7, a8, k8, rfl, Lib.hid u9, Lib.hid ?_, Lib.hid ?_, Lib.hid (b_grown HBq15.out g9 HXW.out)⟩
              · exact readI_gb HR7.out g9 (fun k hk e => by injection e with e; subst e; have z := HO7.out k hk; rw [HXq15.out.1] at z; injection z with z; exact absurd z (by decide))
              · exact readI_gb HR8.out g9 (fun k hk e => by injection e with e; subst e; have z := HO8.out k hk; rw [HXq15.out.1] at z; injection z with z; exact absurd z (by decide))
        · skip
          go_simp
          refine hK.out _ _ (HS.out _ (b_alloc HBq1.out _)) (fun hHeld => ?_)
          clear hK K
          (try simp only [Act.put, List.getElem_toArray, List.getElem_cons_succ, List.getElem_cons_zero, List.setIfInBounds_toArray, List.set_cons_zero, List.set_cons_succ])
          refine wpAnyH_named ?_
          intro q16 hq16
          have HBq16 : Hid (Below W8.heap.size W8 q16) := Lib.hid (by rw [hq16]; exact b_alloc HBq1.out _)
          have HXW0 : Hid (W8.heap.size ≤ q1.heap.size) := Lib.hid HBq1.out.size
          obtain ⟨X, hX⟩ : ∃ X, X = q1.heap.size := ⟨_, rfl⟩
          rw [← hX] at HXW0 ⊢
          have HXq16 : Hid (tyB q16 X = some MAPT ∧ Blk q16 X [.slice none 0 0, .slice none 0 0]) := Lib.hid (by rw [hq16]; exact ⟨tyB_new2 hX, blk_new9 hX⟩)
          have OWq16 := Lib.hid (show OwnR intE 3 q16 W8.heap.size _ _ by rw [hq16]; exact ownR_alloc OWq1.out _)
          clear hq16 hX
          replace hHeld := HS.out _ HBq16.out
          refine wpAnyH_ready (rs := [3]) (by kernel_rfl) (by simp) (AllReadyH.cons rfl (fun K hK => ?_) AllReadyH.nil)
          refine step_appendR rowInt (by rfl) _ _ (by rfl) W8.heap.size _ [] (by rfl) OWq16.out _ PS (by rfl) (readI_R (readI_below HPS.out HBq16.out)) (by have := HLEN.out; simp only [List.length_nil]; omega) (by have := HLEN.out; simp only [List.length_nil]; unfold maxLen; omega) HBq16.out.size ?_
          intro vq17 q17 ownq17 hgq17
          rw [List.nil_append] at ownq17
          have HBq17 := Lib.hid (b_ownR HBq16.out OWq16.out hgq17)
          have OWq17 := Lib.hid ownq17
          have HXq17 : Hid (tyB q17 X = some MAPT ∧ Blk q17 X [.slice none 0 0, .slice none 0 0]) := Lib.hid ⟨tyB_grown HXq16.out.1 hgq17 (fun e => ownR_ne OWq16.out HXq16.out.1 (by decide) _ e.symm rfl), blk_grown HXq16.out.2 hgq17 (fun e => ownR_ne OWq16.out HXq16.out.1 (by decide) _ e.symm rfl)⟩
          clear ownq17 hgq17
          refine hK.out _ _ (HS.out _ HBq17.out) (fun hHeld => ?_)
          clear hK K
          (try simp only [Act.put, List.getElem_toArray, List.getElem_cons_succ, List.getElem_cons_zero, List.setIfInBounds_toArray, List.set_cons_zero, List.set_cons_succ])
          refine wpAnyH_ready (rs := [6]) (by kernel_rfl) (by simp) (AllReadyH.cons rfl (fun K hK => ?_) AllReadyH.nil)
          refine step_appendR rowInt (by rfl) _ _ (by rfl) W8.heap.size _ PS (by rfl) OWq17.out _ LS (by rfl) (readI_R (readI_below HLS.out HBq17.out)) (by have := HLEN.out; omega) (by have := HLEN.out; unfold maxLen; omega) HBq17.out.size ?_
          intro vq18 q18 ownq18 hgq18
          rw [← HXS.out] at ownq18
          have HBq18 := Lib.hid (b_ownR HBq17.out OWq17.out hgq18)
          have OWq18 := Lib.hid ownq18
          have HXq18 : Hid (tyB q18 X = some MAPT ∧ Blk q18 X [.slice none 0 0, .slice none 0 0]) := Lib.hid ⟨tyB_grown HXq17.out.1 hgq18 (fun e => ownR_ne OWq17.out HXq17.out.1 (by decide) _ e.symm rfl), blk_grown HXq17.out.2 hgq18 (fun e => ownR_ne OWq17.out HXq17.out.1 (by decide) _ e.symm rfl)⟩
          obtain ⟨laq18, lcq18, hvq18, _, _⟩ := readR_len (ownR_read OWq18.out)
          subst hvq18
          clear ownq18 hgq18
          refine hK.out _ _ (HS.out _ HBq18.out) (fun hHeld => ?_)
          clear hK K
          (try simp only [Act.put, List.getElem_toArray, List.getElem_cons_succ, List.getElem_cons_zero, List.setIfInBounds_toArray, List.set_cons_zero, List.set_cons_succ])
          refine wpAnyH_ready (rs := [7]) (by kernel_rfl) (by simp) (AllReadyH.cons rfl (fun K hK => ?_) AllReadyH.nil)
          go_simp
          have HMq19 := Lib.hid (rrefs_ty _ XS q18 (readR_I (ownR_read OWq18.out)) HXL.out)
          rw [← HRA.out] at HMq19
          refine HMq19.out.mono ?_
          rintro e q19 ⟨a7, k7, rfl, hr7, ho7, hb7⟩
          have HR7 := Lib.hid hr7; have HO7 := Lib.hid ho7
          have HBq19 := Lib.hid (b_call HBq18.out hb7)
          have HXq19 : Hid (tyB q19 X = some MAPT ∧ Blk q19 X [.slice none 0 0, .slice none 0 0]) := Lib.hid ⟨tyB_call HXq18.out.1 hb7, blk_below HXq18.out.2 hb7⟩
          clear hr7 hb7 ho7 HMq19
          refine hK.out _ _ (HS.out _ HBq19.out) (fun hHeld => ?_)
          clear hK K
          (try simp only [Act.put, List.getElem_toArray, List.getElem_cons_succ, List.getElem_cons_zero, List.setIfInBounds_toArray, List.set_cons_zero, List.set_cons_succ])
          refine wpAnyH_ready (rs := [16]) (by kernel_rfl) (by simp) (AllReadyH.cons rfl (fun K hK => ?_) AllReadyH.nil)
          go_simp
          have HMq20 := Lib.hid (rrefs_ty _ KS q19 (readI_below HKR.out HBq19.out) HKL.out)
          rw [← HRB.out] at HMq20
          refine HMq20.out.mono ?_
          rintro e q20 ⟨a8, k8, rfl, hr8, ho8, hb8⟩
          have HR8 := Lib.hid hr8; have HO8 := Lib.hid ho8
          have HBq20 := Lib.hid (b_call HBq19.out hb8)
          have HR7 := Lib.hid (readI_below HR7.out hb8)
          have HO7 : Hid (∀ k, (Value.slice a7 RA.length k7).ownBlock = some k → tyB q20 k = some 3) := Lib.hid (fun k hk => tyB_call (HO7.out k hk) hb8)
          have HXq20 : Hid (tyB q20 X = some MAPT ∧ Blk q20 X [.slice none 0 0, .slice none 0 0]) := Lib.hid ⟨tyB_call HXq19.out.1 hb8, blk_below HXq19.out.2 hb8⟩
          clear hr8 hb8 ho8 HMq20
          refine hK.out _ _ (HS.out _ HBq20.out) (fun hHeld => ?_)
          clear hK K
          (try simp only [Act.put, List.getElem_toArray, List.getElem_cons_succ, List.getElem_cons_zero, List.setIfInBounds_toArray, List.set_cons_zero, List.set_cons_succ])
          (refine wpAnyH_take (i := 17) (v := ?_) rfl (by kernel_rfl) (by kernel_rfl) (by kernel_rfl) (fun _ _ _ h => h) (Or.inl ⟨by rfl, ?_⟩) hHeld ?_; rotate_left; (focus (intro w hSw; (try dsimp only at hSw); go_simp; try (with_reducible rfl))); (try simp only [Act.put, List.getElem_toArray, List.getElem_cons_succ, List.getElem_cons_zero, List.setIfInBounds_toArray, List.set_cons_zero, List.set_cons_succ]))
          obtain ⟨c0, c1, cf⟩ := blk2 HXq20.out.2
          have cz := HXq20.out.2.1
          refine wpAnyH_ready (rs := [19]) (by kernel_rfl) (by simp) (AllReadyH.cons rfl (fun K hK => ?_) AllReadyH.nil)
          go_simp
          have HXW := HXW0
          refine hK.out _ _ (HS.out _ (b_set (b_set HBq20.out (p := ⟨X, 0, none⟩) HXW.out _) (p := ⟨X, 1, none⟩) HXW.out _)) (fun hHeld => ?_)
          clear hK K
          (try simp only [Act.put, List.getElem_toArray, List.getElem_cons_succ, List.getElem_cons_zero, List.setIfInBounds_toArray, List.set_cons_zero, List.set_cons_succ])
          refine wpAnyH_done (by kernel_rfl) ?_ _
          refine then_named ?_
          intro w9 hw9
          have g9 : q20.grownBy w9 (some X) ∧ Blk w9 X [.slice a7 RA.length k7, .slice a8 RB.length k8] := by
            subst hw9
            exact ⟨gb_set (gb_set (gb_refl _ (some X)) _ _ _) _ _ _, blk_set (blk_set HXq20.out.2 0 (.slice a7 RA.length k7)) 1 (.slice a8 RB.length k8)⟩
          obtain ⟨g9, u9⟩ := g9
          clear hw9 c0 c1 cf cz
          go_wp2_with fail
          go_meet
          case rel =>
            refine ⟨X, a7, k7, a8, k8, rfl, Lib.hid u9, Lib.hid ?_, Lib.hid ?_, Lib.hid (b_grown HBq20.out g9 HXW.out)⟩
            · exact readI_gb HR7.out g9 (fun k hk e => by injection e with e; subst e; have z := HO7.out k hk; rw [HXq20.out.1] at z; injection z with z; exact absurd z (by decide))
            · exact readI_gb HR8.out g9 (fun k hk e => by injection e with e; subst e; have z := HO8.out k hk; rw [HXq20.out.1] at z; injection z with z; exact absurd z (by decide))
      · skip
        go_simp
        refine hK.out _ _ (HS.out _ (b_alloc HBq0.out _)) (fun hHeld => ?_)
        clear hK K
        (try simp only [Act.put, List.getElem_toArray, List.getElem_cons_succ, List.getElem_cons_zero, List.setIfInBounds_toArray, List.set_cons_zero, List.set_cons_succ])
        refine wpAnyH_named ?_
        intro q21 hq21
        have HBq21 : Hid (Below W8.heap.size W8 q21) := Lib.hid (by rw [hq21]; exact b_alloc HBq0.out _)
        have HXW0 : Hid (W8.heap.size ≤ q0.heap.size) := Lib.hid HBq0.out.size
        obtain ⟨X, hX⟩ : ∃ X, X = q0.heap.size := ⟨_, rfl⟩
        rw [← hX] at HXW0 ⊢
        have HXq21 : Hid (tyB q21 X = some MAPT ∧ Blk q21 X [.slice none 0 0, .slice none 0 0]) := Lib.hid (by rw [hq21]; exact ⟨tyB_new2 hX, blk_new9 hX⟩)
        clear hq21 hX
        replace hHeld := HS.out _ HBq21.out
        refine wpAnyH_ready (rs := [0]) (by kernel_rfl) (by simp) (AllReadyH.cons rfl (fun K hK => ?_) AllReadyH.nil)
        go_simp
        refine hK.out _ _ (HS.out _ (b_alloc HBq21.out _)) (fun hHeld => ?_)
        clear hK K
        (try simp only [Act.put, List.getElem_toArray, List.getElem_cons_succ, List.getElem_cons_zero, List.setIfInBounds_toArray, List.set_cons_zero, List.set_cons_succ])
        refine wpAnyH_named ?_
        intro q22 hq22
        have HBq22 : Hid (Below W8.heap.size W8 q22) := Lib.hid (by rw [hq22]; exact b_alloc HBq21.out _)
        have OWq22 : Hid (OwnR intE 3 q22 W8.heap.size (.slice (some ⟨q21.heap.size, 0, none⟩) 0 0) []) := Lib.hid (by rw [hq22]; exact own_emptyR HBq21.out.size)
        have HXq22 : Hid (tyB q22 X = some MAPT ∧ Blk q22 X [.slice none 0 0, .slice none 0 0]) := Lib.hid (by rw [hq22]; exact ⟨tyB_alloc HXq21.out.1 _, blk_alloc HXq21.out.2 _⟩)
        clear hq22
        replace hHeld := HS.out _ HBq22.out
        refine wpAnyH_ready (rs := [3]) (by kernel_rfl) (by simp) (AllReadyH.cons rfl (fun K hK => ?_) AllReadyH.nil)
        refine step_appendR rowInt (by rfl) _ _ (by rfl) W8.heap.size _ [] (by rfl) OWq22.out _ PS (by rfl) (readI_R (readI_below HPS.out HBq22.out)) (by have := HLEN.out; simp only [List.length_nil]; omega) (by have := HLEN.out; simp only [List.length_nil]; unfold maxLen; omega) HBq22.out.size ?_
        intro vq23 q23 ownq23 hgq23
        rw [List.nil_append] at ownq23
        have HBq23 := Lib.hid (b_ownR HBq22.out OWq22.out hgq23)
        have OWq23 := Lib.hid ownq23
        have HXq23 : Hid (tyB q23 X = some MAPT ∧ Blk q23 X [.slice none 0 0, .slice none 0 0]) := Lib.hid ⟨tyB_grown HXq22.out.1 hgq23 (fun e => ownR_ne OWq22.out HXq22.out.1 (by decide) _ e.symm rfl), blk_grown HXq22.out.2 hgq23 (fun e => ownR_ne OWq22.out HXq22.out.1 (by decide) _ e.symm rfl)⟩
        clear ownq23 hgq23
        refine hK.out _ _ (HS.out _ HBq23.out) (fun hHeld => ?_)
        clear hK K
        (try simp only [Act.put, List.getElem_toArray, List.getElem_cons_succ, List.getElem_cons_zero, List.setIfInBounds_toArray, List.set_cons_zero, List.set_cons_succ])
        refine wpAnyH_ready (rs := [6]) (by kernel_rfl) (by simp) (AllReadyH.cons rfl (fun K hK => ?_) AllReadyH.nil)
        refine step_appendR rowInt (by rfl) _ _ (by rfl) W8.heap.size _ PS (by rfl) OWq23.out _ LS (by rfl) (readI_R (readI_below HLS.out HBq23.out)) (by have := HLEN.out; omega) (by have := HLEN.out; unfold maxLen; omega) HBq23.out.size ?_
        intro vq24 q24 ownq24 hgq24
        rw [← HXS.out] at ownq24
        have HBq24 := Lib.hid (b_ownR HBq23.out OWq23.out hgq24)
        have OWq24 := Lib.hid ownq24
        have HXq24 : Hid (tyB q24 X = some MAPT ∧ Blk q24 X [.slice none 0 0, .slice none 0 0]) := Lib.hid ⟨tyB_grown HXq23.out.1 hgq24 (fun e => ownR_ne OWq23.out HXq23.out.1 (by decide) _ e.symm rfl), blk_grown HXq23.out.2 hgq24 (fun e => ownR_ne OWq23.out HXq23.out.1 (by decide) _ e.symm rfl)⟩
        obtain ⟨laq24, lcq24, hvq24, _, _⟩ := readR_len (ownR_read OWq24.out)
        subst hvq24
        clear ownq24 hgq24
        refine hK.out _ _ (HS.out _ HBq24.out) (fun hHeld => ?_)
        clear hK K
        (try simp only [Act.put, List.getElem_toArray, List.getElem_cons_succ, List.getElem_cons_zero, List.setIfInBounds_toArray, List.set_cons_zero, List.set_cons_succ])
        refine wpAnyH_ready (rs := [7]) (by kernel_rfl) (by simp) (AllReadyH.cons rfl (fun K hK => ?_) AllReadyH.nil)
        go_simp
        have HMq25 := Lib.hid (rrefs_ty _ XS q24 (readR_I (ownR_read OWq24.out)) HXL.out)
        rw [← HRA.out] at HMq25
        refine HMq25.out.mono ?_
        rintro e q25 ⟨a7, k7, rfl, hr7, ho7, hb7⟩
        have HR7 := Lib.hid hr7; have HO7 := Lib.hid ho7
        have HBq25 := Lib.hid (b_call HBq24.out hb7)
        have HXq25 : Hid (tyB q25 X = some MAPT ∧ Blk q25 X [.slice none 0 0, .slice none 0 0]) := Lib.hid ⟨tyB_call HXq24.out.1 hb7, blk_below HXq24.out.2 hb7⟩
        clear hr7 hb7 ho7 HMq25
        refine hK.out _ _ (HS.out _ HBq25.out) (fun hHeld => ?_)
        clear hK K
        (try simp only [Act.put, List.getElem_toArray, List.getElem_cons_succ, List.getElem_cons_zero, List.setIfInBounds_toArray, List.set_cons_zero, List.set_cons_succ])
        refine wpAnyH_ready (rs := [16]) (by kernel_rfl) (by simp) (AllReadyH.cons rfl (fun K hK => ?_) AllReadyH.nil)
        go_simp
        have HMq26 := Lib.hid (rrefs_ty _ KS q25 (readI_below HKR.out HBq25.out) HKL.out)
        rw [← HRB.out] at HMq26
        refine HMq26.out.mono ?_
        rintro e q26 ⟨a8, k8, rfl, hr8, ho8, hb8⟩
        have HR8 := Lib.hid hr8; have HO8 := Lib.hid ho8
        have HBq26 := Lib.hid (b_call HBq25.out hb8)
        have HR7 := Lib.hid (readI_below HR7.out hb8)
        have HO7 : Hid (∀ k, (Value.slice a7 RA.length k7).ownBlock = some k → tyB q26 k = some 3) := Lib.hid (fun k hk => tyB_call (HO7.out k hk) hb8)
        have HXq26 : Hid (tyB q26 X = some MAPT ∧ Blk q26 X [.slice none 0 0, .slice none 0 0]) := Lib.hid ⟨tyB_call HXq25.out.1 hb8, blk_below HXq25.out.2 hb8⟩
        clear hr8 hb8 ho8 HMq26
        refine hK.out _ _ (HS.out _ HBq26.out) (fun hHeld => ?_)
        clear hK K
        (try simp only [Act.put, List.getElem_toArray, List.getElem_cons_succ, List.getElem_cons_zero, List.setIfInBounds_toArray, List.set_cons_zero, List.set_cons_succ])
        (refine wpAnyH_take (i := 17) (v := ?_) rfl (by kernel_rfl) (by kernel_rfl) (by kernel_rfl) (fun _ _ _ h => h) (Or.inl ⟨by rfl, ?_⟩) hHeld ?_; rotate_left; (focus (intro w hSw; (try dsimp only at hSw); go_simp; try (with_reducible rfl))); (try simp only [Act.put, List.getElem_toArray, List.getElem_cons_succ, List.getElem_cons_zero, List.setIfInBounds_toArray, List.set_cons_zero, List.set_cons_succ]))
        obtain ⟨c0, c1, cf⟩ := blk2 HXq26.out.2
        have cz := HXq26.out.2.1
        refine wpAnyH_ready (rs := [19]) (by kernel_rfl) (by simp) (AllReadyH.cons rfl (fun K hK => ?_) AllReadyH.nil)
        go_simp
        have HXW := HXW0
        refine hK.out _ _ (HS.out _ (b_set (b_set HBq26.out (p := ⟨X, 0, none⟩) HXW.out _) (p := ⟨X, 1, none⟩) HXW.out _)) (fun hHeld => ?_)
        clear hK K
        (try simp only [Act.put, List.getElem_toArray, List.getElem_cons_succ, List.getElem_cons_zero, List.setIfInBounds_toArray, List.set_cons_zero, List.set_cons_succ])
        refine wpAnyH_done (by kernel_rfl) ?_ _
        refine then_named ?_
        intro w9 hw9
        have g9 : q26.grownBy w9 (some X) ∧ Blk w9 X [.slice a7 RA.length k7, .slice a8 RB.length k8] := by
          subst hw9
          exact ⟨gb_set (gb_set (gb_refl _ (some X)) _ _ _) _ _ _, blk_set (blk_set HXq26.out.2 0 (.slice a7 RA.length k7)) 1 (.slice a8 RB.length k8)⟩
        obtain ⟨g9, u9⟩ := g9
        clear hw9 c0 c1 cf cz
        go_wp2_with fail
        go_meet
        case rel =>
          refine ⟨X, a7, k7, a8, k8, rfl, Lib.hid u9, Lib.hid ?_, Lib.hid ?_, Lib.hid (b_grown HBq26.out g9 HXW.out)⟩
          · exact readI_gb HR7.out g9 (fun k hk e => by injection e with e; subst e; have z := HO7.out k hk; rw [HXq26.out.1] at z; injection z with z; exact absurd z (by decide))
          · exact readI_gb HR8.out g9 (fun k hk e => by injection e with e; subst e; have z := HO8.out k hk; rw [HXq26.out.1] at z; injection z with z; exact absurd z (by decide))
      --R9END
    case rest =>
    obtain ⟨X, a7, k7, a8, k8, rfl, HXB, HR7, HR8, HB9⟩ := hcut
    obtain ⟨W9, hW9⟩ : ∃ x, x = wc := ⟨_, rfl⟩
    subst hW9
    have hb79 := b_call HB78'.out HB9.out
    have HX9 := Lib.hid (blk_below HX7.out hb79)
    have HT1 : Hid (ReadI W9 (.slice sa sn sc) RA) := Lib.hid (readI_below HS1.out (b_call HB67.out hb79))
    have HT2 : Hid (ReadI W9 (.slice ta tn tc) RB) := Lib.hid (readI_below HS2.out (b_call HB67.out hb79))
    have HB09 := Lib.hid (b_call HBW.out (b_call HB8.out HB9.out))
    have HSA := Lib.hid (msame_any ⟨sa, sn, sc⟩ ⟨ta, tn, tc⟩ ⟨a7, RA.length, k7⟩ ⟨a8, RB.length, k8⟩ RA RB RA RB W9 HT1.out HT2.out HR7.out HR8.out HRAL.out HRBL.out HRAL.out HRBL.out)
    have eb : bothB RA RA RB RB = true := by unfold bothB; simp
    rw [eb] at HSA
    have HK9 : Hid (∀ w', Below W9.heap.size W9 w' → (w'.cell? ⟨w6.heap.size, 0, none⟩ = some (.slice sa sn sc) ∧ w'.cell? ⟨w6.heap.size, 1, none⟩ = some (.slice ta tn tc)) ∧ (w'.cell? ⟨X, 0, none⟩ = some (.slice a7 RA.length k7) ∧ w'.cell? ⟨X, 1, none⟩ = some (.slice a8 RB.length k8)) ∧ w6.heap.size < w'.heap.size ∧ X < w'.heap.size) := Lib.hid (fun w' hb => by
      have z1 := blk_below HX9.out hb; have z2 := blk_below HXB.out hb
      obtain ⟨y0, y1, _⟩ := blk2 z1
      obtain ⟨x0, x1, _⟩ := blk2 z2
      exact ⟨⟨y0, y1⟩, ⟨x0, x1⟩, z1.1, z2.1⟩)
    obtain ⟨⟨y0, y1⟩, ⟨x0, x1⟩, yz, xz⟩ := HK9.out W9 (Below.refl _ _)
    clear eb hb79
    go_wp2_with fail
    refine HSA.out.mono ?_
    rintro e w10 ⟨rfl, hb10⟩
    have HB10 := Lib.hid hb10
    clear hb10 y0 y1 x0 x1 yz xz
    obtain ⟨⟨y0, y1⟩, ⟨x0, x1⟩, yz, xz⟩ := HK9.out w10 HB10.out
    have HQ1 := Lib.hid (rsameJ_any (.slice sa sn sc) (.slice a7 RA.length k7) RA RA w10 (readI_below HT1.out HB10.out) (readI_below HR7.out HB10.out) HRAL.out HRAL.out)
    rw [decide_eq_true rfl] at HQ1
    go_wp2_with fail
    refine HQ1.out.mono ?_
    rintro e w11 ⟨rfl, hb11⟩
    have HB11 := Lib.hid (b_call HB10.out hb11)
    clear hb11 y0 y1 x0 x1 yz xz
    obtain ⟨⟨y0, y1⟩, ⟨x0, x1⟩, yz, xz⟩ := HK9.out w11 HB11.out
    have HQ2 := Lib.hid (rsameJ_any (.slice ta tn tc) (.slice a8 RB.length k8) RB RB w11 (readI_below HT2.out HB11.out) (readI_below HR8.out HB11.out) HRBL.out HRBL.out)
    rw [decide_eq_true rfl] at HQ2
    go_wp2_with fail
    refine HQ2.out.mono ?_
    rintro e w12 ⟨rfl, hb12⟩
    have HB12 := Lib.hid (b_call HB11.out hb12)
    clear hb12 y0 y1 x0 x1 yz xz
    go_wp2_with fail
    refine (awake27 _).mono ?_
    rintro e w13 ⟨rfl, hb13⟩
    have HB13 := Lib.hid (b_call HB12.out hb13)
    clear hb13
    go_wp2_with fail
    go_ret
    exact ⟨rfl, b_call HB09.out HB13.out⟩
end Go.Proofs.Ytdmidnmciaediaa
