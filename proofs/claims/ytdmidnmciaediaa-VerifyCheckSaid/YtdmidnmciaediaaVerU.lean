/- VerifyCheck, walked: whatever the program, the answer is true. Conditions: the program reads as lists. -/
import Derived.Test.YtdmidnmciaediaaVerR
import Derived.Test.YtdmidnmciaediaaVerS
namespace Go.Proofs.Ytdmidnmciaediaa
open Go.RowKit
set_option linter.unusedVariables false
set_option linter.unusedSimpArgs false
attribute [local go_sem] over_cell over_frozen
theorem neWr (a1 b1 c1 : Int) (w : World) : (binOp .neq 85 (.agg #[.int .i64 a1, .int .i64 b1, .int .i64 c1]) (.agg #[.int .i64 a1, .int .i64 b1, .int .i64 c1])).run Try.prog w = .ok (.bool false) w := by
  have hS : Try.prog.underlying 85 = some (.struct (Try.prog.fieldsOf 85)) := by kernel_rfl
  have hp : Try.prog.stoodInHeld 85 = false := by kernel_rfl
  rw [run_neq_struct, show (10000 : Nat) = 9999 + 1 from rfl, run_equalIn_agg w 9999 _ _ _ hS hp]
  simp only [Program.fieldsOf, Try.underlying85]
  go_simp
  try simp
theorem rsame_self2 (u v : Value) (xs : List Int) (w : World) (h : ReadI w u xs) (h' : ReadI w v xs) (hl : xs.length ≤ 100) : Calls Try.prog 29 #[u, v] w fun e w' => e = .returned (.bool true) ∧ Below w.heap.size w w' :=
  (rsame_any u v xs xs w h h' (by omega) (by omega)).mono (fun e w' ⟨h1, h2⟩ => ⟨by rw [h1, decide_eq_true rfl], h2⟩)
def RetU (X : World → List (Nat × Nat) → List (List (Option (List Int))) → Prop) (w : World) (R : Sum (List (List (Option (List Int)))) (Int × Int × Int)) (e : Ending) (w' : World) : Prop :=
  ∃ a c L, e = .returned (.tuple #[.slice a L.length c, .agg #[.int .i64 (wrOf R).1, .int .i64 (wrOf R).2.1, .int .i64 (wrOf R).2.2]]) ∧ ReadR slE w' (.slice a L.length c) L ∧ X w' L (msOf R) ∧ Below w.heap.size w w'
theorem retChk_u {w w' : World} {e : Ending} {R : Sum (List (List (Option (List Int)))) (Int × Int × Int)} (h : RetChk w R e w') : RetU AllR w R e w' := by
  obtain ⟨h1, h2⟩ := h
  cases R with
  | inl Ms => obtain ⟨a, c, L, e, q1, q2⟩ := h1; exact ⟨a, c, L, e, q1, q2, h2⟩
  | inr x => exact ⟨none, 0, [], h1, readR_nil _, ⟨rfl, fun k hk => absurd hk (Nat.not_lt_zero _)⟩, h2⟩
theorem retChkD_u {w w' : World} {e : Ending} {R : Sum (List (List (Option (List Int)))) (Int × Int × Int)} (h : RetChkD w R e w') : RetU AllD w R e w' := by
  obtain ⟨h1, h2⟩ := h
  cases R with
  | inl Ms => obtain ⟨a, c, L, e, q1, q2⟩ := h1; exact ⟨a, c, L, e, q1, q2, h2⟩
  | inr x => exact ⟨none, 0, [], h1, readR_nil _, ⟨rfl, fun k hk => absurd hk (Nat.not_lt_zero _)⟩, h2⟩
theorem sl_at {w : World} {a : Option Addr} {c : Nat} {L : List (Nat × Nat)} (h : ReadR slE w (.slice a L.length c) L) {j : Nat} (hj : j < L.length) : ∃ b o, a = some ⟨b, o, none⟩ ∧ b < w.heap.size ∧ L.length ≤ c ∧ c ≤ maxLen ∧ w.cell? ⟨b, o + j, none⟩ = some (.slice (some ⟨L[j].1, 0, none⟩) L[j].2 L[j].2) := by
  obtain ⟨b, o, cap, e, h1, h2, h3, h4⟩ := readR_pos h (by omega)
  injection e with e1 _ e3
  have z := h4 j hj 0 (by decide)
  have e2 : o + (j * slE.size + 0) = o + j := by show o + (j * 1 + 0) = o + j; omega
  rw [e2] at z
  exact ⟨b, o, e1, h3, by rw [e3]; exact h1, by rw [e3]; exact h2, z⟩
theorem store3 {w W : World} {x y z : Value} {T : TypeId} {c0 : Array Value} (hw : c0.size = 3) (h : W = (((w.alloc (.cells c0 T)).setCell ⟨w.heap.size, 0, none⟩ x).setCell ⟨w.heap.size, 1, none⟩ y).setCell ⟨w.heap.size, 2, none⟩ z) : Blk W w.heap.size [x, y, z] ∧ Below w.heap.size w W := by
  subst h
  have hb := blk_new w c0 T
  obtain ⟨a0, a1, a2, e⟩ : ∃ a0 a1 a2, c0.toList = [a0, a1, a2] := by
    have hl : c0.toList.length = 3 := by simpa using hw
    match c0.toList, hl with
    | [a0, a1, a2], _ => exact ⟨a0, a1, a2, rfl⟩
  rw [e] at hb
  exact ⟨blk_set (blk_set (blk_set hb 0 _) 1 _) 2 _, b_grown (b_alloc (Below.refl _ _) _) (gb_set (gb_set (gb_set (gb_refl _ (some w.heap.size)) _ _ _) _ _ _) _ _ _) (Nat.le_refl _)⟩
theorem store2 {w W : World} {x y : Value} {T : TypeId} {c0 : Array Value} (hw : c0.size = 2) (h : W = ((w.alloc (.cells c0 T)).setCell ⟨w.heap.size, 0, none⟩ x).setCell ⟨w.heap.size, 1, none⟩ y) : Blk W w.heap.size [x, y] ∧ Below w.heap.size w W := by
  subst h
  have hb := blk_new w c0 T
  obtain ⟨a0, a1, e⟩ : ∃ a0 a1, c0.toList = [a0, a1] := by
    have hl : c0.toList.length = 2 := by simpa using hw
    match c0.toList, hl with
    | [a0, a1], _ => exact ⟨a0, a1, rfl⟩
  rw [e] at hb
  exact ⟨blk_set (blk_set hb 0 _) 1 _, b_grown (b_alloc (Below.refl _ _) _) (gb_set (gb_set (gb_refl _ (some w.heap.size)) _ _ _) _ _ _) (Nat.le_refl _)⟩
set_option maxRecDepth 100000 in
set_option maxHeartbeats 4000000 in
theorem verifyCheck_any (p : PrV) (P : PrM) (w : World) (h : ReadP w p P) : Calls Try.prog 8 #[aggP p] w fun e w' => e = .returned (.bool true) ∧ Below w.heap.size w w' := by
  have H := Lib.hid h
  obtain ⟨C, hC⟩ : ∃ C, C = cutP P := ⟨_, rfl⟩
  have HC := Lib.hid hC
  have HSM : Hid (SmallP C) := by show SmallP C; rw [hC]; exact small_cut P
  obtain ⟨R, hR⟩ : ∃ R, R = checkM C := ⟨_, rfl⟩
  have HRM : Hid (∀ k, (h : k < (msOf R).length) → ∀ j, (((msOf R)[k].getD j none).getD []).length ≤ 16) := Lib.hid (fun k h => (msOf_sm hR h).1)
  have HRL : Hid (∀ k, (h : k < (msOf R).length) → (msOf R)[k].length ≤ 200) := Lib.hid (fun k h => (msOf_sm hR h).2)
  have HRR := Lib.hid hR
  obtain ⟨u, ⟨ga, gn, gc⟩, m, ⟨fa, fn, fc⟩⟩ := p
  clear h hC hR
  unfold aggP Sl.v
  simp only
  have HB0 := Lib.hid (b_alloc (Below.refl w.heap.size w) (.cells #[.bool u, .slice ga gn gc, .int .i64 m, .slice fa fn fc] 25))
  have HX0 := Lib.hid (blk_new w #[.bool u, .slice ga gn gc, .int .i64 m, .slice fa fn fc] 25)
  go_enter Try.func8, Try.ntmps8
  go_wp2_with fail
  refine (cut_made ⟨u, ⟨ga, gn, gc⟩, m, ⟨fa, fn, fc⟩⟩ P w _ H.out HB0.out).mono ?_
  rintro e w1 ⟨q, rfl, hcm, hb1⟩
  rw [← HC.out] at hcm
  obtain ⟨qu, ⟨qa, qn, qc⟩, qm, ⟨ra, rn, rc⟩⟩ := q
  have BX1 := blk_below HX0.out hb1
  have HB1 := Lib.hid (b_call HB0.out hb1)
  have HCM := Lib.hid hcm
  have hl1 := BX1.1
  have HX1 := Lib.hid BX1
  obtain ⟨c0, c1, c2, c3, cf⟩ := blk4 BX1
  clear hcm hb1 BX1
  unfold aggP Sl.v
  simp only
  go_upto_region 2 with fail
  refine wp_named ?_
  intro W hW
  have BW : Blk W w.heap.size [.bool qu, .slice qa qn qc, .int .i64 qm, .slice ra rn rc] := by rw [hW]; exact blk_set (blk_set (blk_set (blk_set HX1.out 0 _) 1 _) 2 _) 3 _
  have GW := gb_set (gb_set (gb_set (gb_set (gb_refl w1 (some w.heap.size)) 0 none (.bool qu)) 1 none (.slice qa qn qc)) 2 none (.int .i64 qm)) 3 none (.slice ra rn rc)
  rw [← hW] at GW
  have hBW : Below w.heap.size w W := b_grown HB1.out GW (Nat.le_refl _)
  have RW : ReadP W ⟨qu, ⟨qa, qn, qc⟩, qm, ⟨ra, rn, rc⟩⟩ C := cutMade_read (cutMade_grown HCM.out GW (by simp)) hBW
  have HR := Lib.hid RW
  have HBW := Lib.hid hBW
  have HK : Hid (∀ w', Below W.heap.size W w' → (w'.cell? ⟨w.heap.size, 0, none⟩ = some (.bool qu) ∧ w'.cell? ⟨w.heap.size, 1, none⟩ = some (.slice qa qn qc) ∧ w'.cell? ⟨w.heap.size, 2, none⟩ = some (.int .i64 qm) ∧ w'.cell? ⟨w.heap.size, 3, none⟩ = some (.slice ra rn rc)) ∧ w.heap.size < w'.heap.size) := Lib.hid (fun w' hb => by
    obtain ⟨y0, y1, y2, y3, _⟩ := blk4 (blk_below BW hb); exact ⟨⟨y0, y1, y2, y3⟩, (blk_below BW hb).1⟩)
  clear hW GW hBW RW c0 c1 c2 c3 cf BW HX1 hl1 HCM HB1
  obtain ⟨⟨c0, c1, c2, c3⟩, cz⟩ := HK.out W (Below.refl _ _)
  go_wp2_with fail
  refine (ours25_any ⟨qu, ⟨qa, qn, qc⟩, qm, ⟨ra, rn, rc⟩⟩ C _ HR.out HSM.out).mono ?_
  rintro e w2 ⟨o, rfl, ho, hb2⟩
  have HV := Lib.hid (vcheck_any o C w2 ho)
  rw [← HRR.out] at HV
  have HB2 := Lib.hid hb2
  clear ho hb2 c0 c1 c2 c3 cz
  go_wp2_with fail
  refine HV.out.mono ?_
  intro e w3 h3
  obtain ⟨a, c, L, rfl, hL, hA, hb3⟩ := retChk_u h3
  have HL := Lib.hid hL; have HA := Lib.hid hA
  have HB3 := Lib.hid (b_call HB2.out hb3)
  clear hL hA hb3 h3 HV HB2
  have hch : c ≤ maxLen := by
    obtain ⟨_, cp, e, _, h2⟩ := readR_len HL.out
    injection e with _ _ e3
    rw [e3]; exact h2
  have hc9 : (c : Int) ≤ 9223372036854775807 := by unfold maxLen at hch; omega
  have hLc : (L.length : Int) ≤ c := by
    obtain ⟨_, cp, e, h1, _⟩ := readR_len HL.out
    injection e with _ _ e3
    rw [← e3] at h1; omega
  clear hch
  obtain ⟨x, hx⟩ : ∃ x, x = (wrOf R).1 := ⟨_, rfl⟩
  obtain ⟨y, hy⟩ : ∃ y, y = (wrOf R).2.1 := ⟨_, rfl⟩
  obtain ⟨z, hz⟩ : ∃ z, z = (wrOf R).2.2 := ⟨_, rfl⟩
  have HX := Lib.hid (And.intro hx (And.intro hy hz))
  rw [← hx, ← hy, ← hz]
  clear hx hy hz
  obtain ⟨⟨c0, c1, c2, c3⟩, cz⟩ := HK.out w3 HB3.out
  go_upto_region 3 with fail
  refine wp_named ?_
  intro W4 hW4
  have S4 : Blk W4 w3.heap.size [.int .i64 x, .int .i64 y, .int .i64 z] ∧ Below w3.heap.size w3 W4 := by
    first
    | (rw [hW4]; exact ⟨blk_new _ _ _, b_alloc (Below.refl _ _) _⟩)
    | exact store3 rfl hW4
  have HS4 := Lib.hid S4.1
  have HB4 := Lib.hid (b_call HB3.out S4.2)
  have HB34 := Lib.hid S4.2
  clear hW4 S4 c0 c1 c2 c3 cz
  obtain ⟨⟨c0, c1, c2, c3⟩, cz⟩ := HK.out W4 HB4.out
  have HV := Lib.hid (rcheck_any ⟨qu, ⟨qa, qn, qc⟩, qm, ⟨ra, rn, rc⟩⟩ C W4 (readP_below HR.out HB4.out))
  rw [← HRR.out] at HV
  go_wp2_with fail
  refine HV.out.mono ?_
  intro e w5 h5
  obtain ⟨a', c', L', rfl, hL', hA', hb5⟩ := retChkD_u h5
  rw [← HX.out.1, ← HX.out.2.1, ← HX.out.2.2]
  have HL' := Lib.hid hL'; have HA' := Lib.hid hA'
  have HB5 := Lib.hid (b_call HB4.out hb5)
  have HB45 := Lib.hid hb5
  clear hL' hA' hb5 h5 HV c0 c1 c2 c3 cz
  have hLL : L.length = L'.length := by rw [HA.out.1, HA'.out.1]
  have HLL := Lib.hid hLL
  rw [hLL] at hLc
  rw [hLL]
  clear hLL
  obtain ⟨⟨c0, c1, c2, c3⟩, cz⟩ := HK.out w5 HB5.out
  go_upto_region 4 with fail
  refine wp_named ?_
  intro W6 hW6
  have S6 : Blk W6 w5.heap.size [.int .i64 x, .int .i64 y, .int .i64 z] ∧ Below w5.heap.size w5 W6 := by
    first
    | (rw [hW6]; exact ⟨blk_new _ _ _, b_alloc (Below.refl _ _) _⟩)
    | exact store3 rfl hW6
  have HB56 := Lib.hid S6.2
  have HB6 := Lib.hid (b_call HB5.out S6.2)
  have T4 := blk_below HS4.out (b_call HB45.out HB56.out)
  have HS6 := Lib.hid S6.1
  have HL6 := Lib.hid (readR_below HL.out (b_call HB34.out (b_call HB45.out HB56.out)))
  have HA6 := Lib.hid (allR_below HA.out (b_call HB34.out (b_call HB45.out HB56.out)))
  have HL6' := Lib.hid (readR_below HL'.out HB56.out)
  have HA6' := Lib.hid (allD_below HA'.out HB56.out)
  have s4z := T4.1
  have s6z := S6.1.1
  obtain ⟨d0, d1, d2, _⟩ := v_blk3 T4
  obtain ⟨e0, e1, e2, _⟩ := v_blk3 S6.1
  have kg := guardWr
  have kn := neWr x y z
  clear hW6 S6 T4 c0 c1 c2 c3 cz HL HA HL' HA'
  go_wp2_with fail
  clear d0 d1 d2 e0 e1 e2 s4z s6z kg kn
  go_loopw [41] (fun i wr => ∃ j : Nat, i = .int .i64 j ∧ j ≤ L'.length ∧ Hid (Below W6.heap.size W6 wr)) (fun i _ => L'.length - (intOf i).toNat)
  case atStart => exact ⟨0, rfl, Nat.zero_le _, Lib.hid (Below.refl _ _)⟩
  case round =>
    obtain ⟨W7, hW7⟩ : ∃ x, x = wr := ⟨_, rfl⟩
    subst hW7
    obtain ⟨j, rfl, hj, HBR⟩ := hrel
    have j0 : (0 : Int) ≤ j := by omega
    by_cases hlt : j < L'.length
    · have j1 : (j : Int) < L'.length := by omega
      have jc : (j : Int) < c := by omega
      have hlt1 : j < L.length := by rw [HLL.out]; exact hlt
      have hltM : j < (msOf R).length := by rw [← HA6.out.1]; exact hlt1
      obtain ⟨b1, o1, rfl, hb1, _, _, hc1⟩ := sl_at HL6.out hlt1
      obtain ⟨b2, o2, rfl, hb2, hc2a, hc2b, hc2⟩ := sl_at HL6'.out hlt
      obtain ⟨F1, hr1⟩ := HA6.out.2 j hlt1 hltM
      obtain ⟨F2, hr2⟩ := HA6'.out.2 j hlt hltM
      have HSM9 := Lib.hid (HRM.out j hltM)
      have n9 := HRL.out j hltM
      have en : L'[j].2 = L[j].2 := hr2.lm.symm.trans hr1.lm
      rw [en] at hc2 hr2
      have hc2c : (L'.length : Int) ≤ c' := by omega
      have hc2d : (c' : Int) ≤ 9223372036854775807 := by unfold maxLen at hc2b; omega
      generalize (msOf R)[j] = M at *
      generalize L[j].2 = n1 at *
      generalize L[j].1 = g1 at *
      generalize L'[j].1 = g2 at *
      have HR1 := Lib.hid hr1; have HR2 := Lib.hid hr2
      have HC1 := Lib.hid hc1; have HC2 := Lib.hid hc2
      have HZ := Lib.hid (And.intro hb1 hb2)
      have q1 := ((bcell HBR.out).1 _ _ hb1).trans hc1
      have q2 := ((bcell HBR.out).1 _ _ hb2).trans hc2
      have q1z : b1 < W7.heap.size := Nat.lt_of_lt_of_le hb1 HBR.out.size
      have q2z : b2 < W7.heap.size := Nat.lt_of_lt_of_le hb2 HBR.out.size
      replace n9 : (n1 : Int) ≤ 200 := by rw [hr1.lm] at n9; omega
      clear hr1 hr2 hc1 hc2 en hltM hlt1 hc2a hc2b hb1 hb2
      go_wp2_with fail
      go_quiet (fail)
      go_wp2_with fail
      clear q1 q2 q1z q2z
      go_loopw [60] (fun i w7 => ∃ k : Nat, i = .int .i64 k ∧ k ≤ n1 ∧ Hid (Below W6.heap.size W6 w7)) (fun i _ => n1 - (intOf i).toNat)
      case atStart => exact ⟨0, rfl, Nat.zero_le _, by first | exact HBR | exact Lib.hid (b_drewN HBR.out _)⟩
      case round =>
        obtain ⟨k, rfl, hk, HB7⟩ := hrel
        have k0 : (0 : Int) ≤ k := by omega
        by_cases hkn : k < n1
        · have k1 : (k : Int) < n1 := by omega
          have T1 := rowT_below HR1.out HB7.out
          have T2 := rowD_below HR2.out HB7.out
          have hk1 : k < F1.length := by rw [T1.lf]; exact hkn
          have hk2 : k < F2.length := by rw [T2.lf]; exact hkn
          obtain ⟨f10, f11⟩ := fact_at T1.fr hk1
          obtain ⟨f20, f21⟩ := fact_at T2.fr hk2
          have p1 := (T1.ok k hk1).1
          have p2 := (T1.ok k hk1).2.1
          have r1 := (T2.ok k hk2).1
          have r2 := (T2.ok k hk2).2.1
          have h16 := HSM9.out k
          rw [p1] at f10
          rw [r1] at f20
          generalize (M.getD k none).getD [] = KD at *
          generalize (M.getD k none).isSome = mk at *
          obtain ⟨da, dc, edc, hrd, _, _⟩ := readI_row p2
          obtain ⟨ea, ec, eec, hre, _, _⟩ := readI_row r2
          have edc2 : Value.slice F1[k].2.a F1[k].2.n F1[k].2.c = .slice da KD.length dc := edc
          have eec2 : Value.slice F2[k].2.a F2[k].2.n F2[k].2.c = .slice ea KD.length ec := eec
          replace f11 := f11.trans (congrArg some edc2)
          replace f21 := f21.trans (congrArg some eec2)
          have HD := Lib.hid hrd; have HE := Lib.hid hre
          have g1z := T1.fr.1
          have g2z := T2.fr.1
          have HF := Lib.hid (And.intro (And.intro f10 f11) (And.intro g1z (Nat.lt_of_lt_of_le HZ.out.1 HB7.out.size)))
          have HQ1 := Lib.hid (((bcell HB7.out).1 _ _ HZ.out.1).trans HC1.out)
          clear T1 T2 hk1 hk2 p1 p2 r1 r2 edc eec edc2 eec2 hrd hre f10 f11
          go_upto_region 14 with fail
          refine wp_named ?_
          intro W8 hW8
          have S8 : Blk W8 wr.heap.size [.bool mk, .slice ea KD.length ec] ∧ Below wr.heap.size wr W8 := by
            first
            | (rw [hW8]; exact ⟨blk_new _ _ _, b_alloc (Below.refl _ _) _⟩)
            | exact store2 rfl hW8
          have HB8 := Lib.hid S8.2
          have HT8 := Lib.hid S8.1
          have HS : Hid (∀ w', Below W8.heap.size W8 w' → w'.cell? ⟨b1, o1 + j, none⟩ = some (.slice (some ⟨g1, 0, none⟩) n1 n1) ∧ w'.cell? ⟨g1, k * 2, none⟩ = some (.bool mk) ∧ w'.cell? ⟨g1, k * 2 + 1, none⟩ = some (.slice da KD.length dc) ∧ w'.cell? ⟨wr.heap.size, 0, none⟩ = some (.bool mk) ∧ w'.cell? ⟨wr.heap.size, 1, none⟩ = some (.slice ea KD.length ec)) := Lib.hid (fun w' hb => by
            have hb9 := b_call HB8.out hb
            obtain ⟨y0, y1, _⟩ := blk2 (blk_below HT8.out hb)
            obtain ⟨⟨x0, x1⟩, xg, xb⟩ := HF.out
            exact ⟨((bcell hb9).1 _ _ xb).trans HQ1.out, ((bcell hb9).1 _ _ xg).trans x0, ((bcell hb9).1 _ _ xg).trans x1, y0, y1⟩)
          clear hW8 S8 f20 f21 g1z g2z
          cases mk
          · refine wp_region_held_drew (S := fun w' => w'.cell? ⟨b1, o1 + j, none⟩ = some (.slice (some ⟨g1, 0, none⟩) n1 n1) ∧ w'.cell? ⟨g1, k * 2, none⟩ = some (.bool false) ∧ w'.cell? ⟨g1, k * 2 + 1, none⟩ = some (.slice da KD.length dc) ∧ w'.cell? ⟨wr.heap.size, 0, none⟩ = some (.bool false) ∧ w'.cell? ⟨wr.heap.size, 1, none⟩ = some (.slice ea KD.length ec)) (by kernel_rfl) (HS.out _ (b_drew (Below.refl _ _))) (fun hHeld => ?_)
            (refine wpAnyH_take (i := 0) (v := ?_) rfl (by kernel_rfl) (by kernel_rfl) (by kernel_rfl) (fun _ _ _ h => h) (Or.inl ⟨by rfl, ?_⟩) hHeld ?_; rotate_left; (focus (intro w hSw; (try dsimp only at hSw); go_simp; try (with_reducible rfl))); (try simp only [Act.put, List.getElem_toArray, List.getElem_cons_succ, List.getElem_cons_zero, List.setIfInBounds_toArray, List.set_cons_zero, List.set_cons_succ]))
            (refine wpAnyH_take (i := 1) (v := ?_) rfl (by kernel_rfl) (by kernel_rfl) (by kernel_rfl) (fun _ _ _ h => h) (Or.inl ⟨by rfl, ?_⟩) hHeld ?_; rotate_left; (focus (intro w hSw; (try dsimp only at hSw); go_simp; try (with_reducible rfl))); (try simp only [Act.put, List.getElem_toArray, List.getElem_cons_succ, List.getElem_cons_zero, List.setIfInBounds_toArray, List.set_cons_zero, List.set_cons_succ]))
            (refine wpAnyH_take (i := 2) (v := ?_) rfl (by kernel_rfl) (by kernel_rfl) (by kernel_rfl) (fun _ _ _ h => h) (Or.inl ⟨by rfl, ?_⟩) hHeld ?_; rotate_left; (focus (intro w hSw; (try dsimp only at hSw); go_simp; try (with_reducible rfl))); (try simp only [Act.put, List.getElem_toArray, List.getElem_cons_succ, List.getElem_cons_zero, List.setIfInBounds_toArray, List.set_cons_zero, List.set_cons_succ]))
            (refine wpAnyH_take (i := 3) (v := ?_) rfl (by kernel_rfl) (by kernel_rfl) (by kernel_rfl) (fun _ _ _ h => h) (Or.inl ⟨by rfl, ?_⟩) hHeld ?_; rotate_left; (focus (intro w hSw; (try dsimp only at hSw); go_simp; try (with_reducible rfl))); (try simp only [Act.put, List.getElem_toArray, List.getElem_cons_succ, List.getElem_cons_zero, List.setIfInBounds_toArray, List.set_cons_zero, List.set_cons_succ]))
            (refine wpAnyH_take (i := 4) (v := ?_) rfl (by kernel_rfl) (by kernel_rfl) (by kernel_rfl) (fun _ _ _ h => h) (Or.inl ⟨by rfl, ?_⟩) hHeld ?_; rotate_left; (focus (intro w hSw; (try dsimp only at hSw); go_simp; try (with_reducible rfl))); (try simp only [Act.put, List.getElem_toArray, List.getElem_cons_succ, List.getElem_cons_zero, List.setIfInBounds_toArray, List.set_cons_zero, List.set_cons_succ]))
            (refine wpAnyH_take (i := 5) (v := ?_) rfl (by kernel_rfl) (by kernel_rfl) (by kernel_rfl) (fun _ _ _ h => h) (Or.inl ⟨by rfl, ?_⟩) hHeld ?_; rotate_left; (focus (intro w hSw; (try dsimp only at hSw); go_simp; try (with_reducible rfl))); (try simp only [Act.put, List.getElem_toArray, List.getElem_cons_succ, List.getElem_cons_zero, List.setIfInBounds_toArray, List.set_cons_zero, List.set_cons_succ]))
            (refine wpAnyH_take (i := 6) (v := ?_) rfl (by kernel_rfl) (by kernel_rfl) (by kernel_rfl) (fun _ _ _ h => h) (Or.inl ⟨by rfl, ?_⟩) hHeld ?_; rotate_left; (focus (intro w hSw; (try dsimp only at hSw); go_simp; try (with_reducible rfl))); (try simp only [Act.put, List.getElem_toArray, List.getElem_cons_succ, List.getElem_cons_zero, List.setIfInBounds_toArray, List.set_cons_zero, List.set_cons_succ]))
            (refine wpAnyH_take (i := 7) (v := ?_) rfl (by kernel_rfl) (by kernel_rfl) (by kernel_rfl) (fun _ _ _ h => h) (Or.inl ⟨by rfl, ?_⟩) hHeld ?_; rotate_left; (focus (intro w hSw; (try dsimp only at hSw); go_simp; try (with_reducible rfl))); (try simp only [Act.put, List.getElem_toArray, List.getElem_cons_succ, List.getElem_cons_zero, List.setIfInBounds_toArray, List.set_cons_zero, List.set_cons_succ]))
            (refine wpAnyH_take (i := 8) (v := ?_) rfl (by kernel_rfl) (by kernel_rfl) (by kernel_rfl) (fun _ _ _ h => h) (Or.inl ⟨by rfl, ?_⟩) hHeld ?_; rotate_left; (focus (intro w hSw; (try dsimp only at hSw); go_simp; try (with_reducible rfl))); (try simp only [Act.put, List.getElem_toArray, List.getElem_cons_succ, List.getElem_cons_zero, List.setIfInBounds_toArray, List.set_cons_zero, List.set_cons_succ]))
            (refine wpAnyH_take (i := 9) (v := ?_) rfl (by kernel_rfl) (by kernel_rfl) (by kernel_rfl) (fun _ _ _ h => h) (Or.inl ⟨by rfl, ?_⟩) hHeld ?_; rotate_left; (focus (intro w hSw; (try dsimp only at hSw); go_simp; try (with_reducible rfl))); (try simp only [Act.put, List.getElem_toArray, List.getElem_cons_succ, List.getElem_cons_zero, List.setIfInBounds_toArray, List.set_cons_zero, List.set_cons_succ]))
            (refine wpAnyH_take (i := 10) (v := ?_) rfl (by kernel_rfl) (by kernel_rfl) (by kernel_rfl) (fun _ _ _ h => h) (Or.inl ⟨by rfl, ?_⟩) hHeld ?_; rotate_left; (focus (intro w hSw; (try dsimp only at hSw); go_simp; try (with_reducible rfl))); (try simp only [Act.put, List.getElem_toArray, List.getElem_cons_succ, List.getElem_cons_zero, List.setIfInBounds_toArray, List.set_cons_zero, List.set_cons_succ]))
            (refine wpAnyH_take (i := 11) (v := ?_) rfl (by kernel_rfl) (by kernel_rfl) (by kernel_rfl) (fun _ _ _ h => h) (Or.inl ⟨by rfl, ?_⟩) hHeld ?_; rotate_left; (focus (intro w hSw; (try dsimp only at hSw); go_simp; try (with_reducible rfl))); (try simp only [Act.put, List.getElem_toArray, List.getElem_cons_succ, List.getElem_cons_zero, List.setIfInBounds_toArray, List.set_cons_zero, List.set_cons_succ]))
            (refine wpAnyH_take (i := 12) (v := ?_) rfl (by kernel_rfl) (by kernel_rfl) (by kernel_rfl) (fun _ _ _ h => h) (Or.inl ⟨by rfl, ?_⟩) hHeld ?_; rotate_left; (focus (intro w hSw; (try dsimp only at hSw); go_simp; try (with_reducible rfl))); (try simp only [Act.put, List.getElem_toArray, List.getElem_cons_succ, List.getElem_cons_zero, List.setIfInBounds_toArray, List.set_cons_zero, List.set_cons_succ]))
            (refine wpAnyH_take (i := 13) (v := ?_) rfl (by kernel_rfl) (by kernel_rfl) (by kernel_rfl) (fun _ _ _ h => h) (Or.inl ⟨by rfl, ?_⟩) hHeld ?_; rotate_left; (focus (intro w hSw; (try dsimp only at hSw); go_simp; try (with_reducible rfl))); (try simp only [Act.put, List.getElem_toArray, List.getElem_cons_succ, List.getElem_cons_zero, List.setIfInBounds_toArray, List.set_cons_zero, List.set_cons_succ]))
            (refine wpAnyH_take (i := 14) (v := ?_) rfl (by kernel_rfl) (by kernel_rfl) (by kernel_rfl) (fun _ _ _ h => h) (Or.inl ⟨by rfl, ?_⟩) hHeld ?_; rotate_left; (focus (intro w hSw; (try dsimp only at hSw); go_simp; try (with_reducible rfl))); (try simp only [Act.put, List.getElem_toArray, List.getElem_cons_succ, List.getElem_cons_zero, List.setIfInBounds_toArray, List.set_cons_zero, List.set_cons_succ]))
            (refine wpAnyH_take (i := 15) (v := ?_) rfl (by kernel_rfl) (by kernel_rfl) (by kernel_rfl) (fun _ _ _ h => h) (Or.inl ⟨by rfl, ?_⟩) hHeld ?_; rotate_left; (focus (intro w hSw; (try dsimp only at hSw); go_simp; try (with_reducible rfl))); (try simp only [Act.put, List.getElem_toArray, List.getElem_cons_succ, List.getElem_cons_zero, List.setIfInBounds_toArray, List.set_cons_zero, List.set_cons_succ]))
            (refine wpAnyH_take (i := 16) (v := ?_) rfl (by kernel_rfl) (by kernel_rfl) (by kernel_rfl) (fun _ _ _ h => h) (Or.inl ⟨by rfl, ?_⟩) hHeld ?_; rotate_left; (focus (intro w hSw; (try dsimp only at hSw); go_simp; try (with_reducible rfl))); (try simp only [Act.put, List.getElem_toArray, List.getElem_cons_succ, List.getElem_cons_zero, List.setIfInBounds_toArray, List.set_cons_zero, List.set_cons_succ]))
            (refine wpAnyH_take (i := 17) (v := ?_) rfl (by kernel_rfl) (by kernel_rfl) (by kernel_rfl) (fun _ _ _ h => h) (Or.inl ⟨by rfl, ?_⟩) hHeld ?_; rotate_left; (focus (intro w hSw; (try dsimp only at hSw); go_simp; try (with_reducible rfl))); (try simp only [Act.put, List.getElem_toArray, List.getElem_cons_succ, List.getElem_cons_zero, List.setIfInBounds_toArray, List.set_cons_zero, List.set_cons_succ]))
            (refine wpAnyH_take (i := 18) (v := ?_) rfl (by kernel_rfl) (by kernel_rfl) (by kernel_rfl) (fun _ _ _ h => h) (Or.inl ⟨by rfl, ?_⟩) hHeld ?_; rotate_left; (focus (intro w hSw; (try dsimp only at hSw); go_simp; try (with_reducible rfl))); (try simp only [Act.put, List.getElem_toArray, List.getElem_cons_succ, List.getElem_cons_zero, List.setIfInBounds_toArray, List.set_cons_zero, List.set_cons_succ]))
            (refine wpAnyH_take (i := 19) (v := ?_) rfl (by kernel_rfl) (by kernel_rfl) (by kernel_rfl) (fun _ _ _ h => h) (Or.inl ⟨by rfl, ?_⟩) hHeld ?_; rotate_left; (focus (intro w hSw; (try dsimp only at hSw); go_simp; try (with_reducible rfl))); (try simp only [Act.put, List.getElem_toArray, List.getElem_cons_succ, List.getElem_cons_zero, List.setIfInBounds_toArray, List.set_cons_zero, List.set_cons_succ]))
            (refine wpAnyH_take (i := 20) (v := ?_) rfl (by kernel_rfl) (by kernel_rfl) (by kernel_rfl) (fun _ _ _ h => h) (Or.inl ⟨by rfl, ?_⟩) hHeld ?_; rotate_left; (focus (intro w hSw; (try dsimp only at hSw); go_simp; try (with_reducible rfl))); (try simp only [Act.put, List.getElem_toArray, List.getElem_cons_succ, List.getElem_cons_zero, List.setIfInBounds_toArray, List.set_cons_zero, List.set_cons_succ]))
            (refine wpAnyH_take (i := 21) (v := ?_) rfl (by kernel_rfl) (by kernel_rfl) (by kernel_rfl) (fun _ _ _ h => h) (Or.inl ⟨by rfl, ?_⟩) hHeld ?_; rotate_left; (focus (intro w hSw; (try dsimp only at hSw); go_simp; try (with_reducible rfl))); (try simp only [Act.put, List.getElem_toArray, List.getElem_cons_succ, List.getElem_cons_zero, List.setIfInBounds_toArray, List.set_cons_zero, List.set_cons_succ]))
            refine wpAnyH_ready (rs := [22]) (by kernel_rfl) (by simp) (AllReadyH.cons rfl (fun K hK => ?_) AllReadyH.nil)
            go_simp
            refine (rsame_self2 (.slice da KD.length dc) (.slice ea KD.length ec) KD _ (readI_below HD.out (b_drew HB8.out)) (readI_below HE.out (b_drew HB8.out)) (by omega)).mono ?_
            rintro e w9 ⟨rfl, hb9⟩
            have HB9 := Lib.hid (b_call (b_drew (Below.refl W8.heap.size W8)) hb9)
            clear hb9
            refine hK.out _ _ (HS.out _ HB9.out) (fun hHeld => ?_)
            clear hK K
            (try simp only [Act.put, List.getElem_toArray, List.getElem_cons_succ, List.getElem_cons_zero, List.setIfInBounds_toArray, List.set_cons_zero, List.set_cons_succ])
            (refine wpAnyH_take (i := 23) (v := ?_) rfl (by kernel_rfl) (by kernel_rfl) (by kernel_rfl) (fun _ _ _ h => h) (Or.inl ⟨by rfl, ?_⟩) hHeld ?_; rotate_left; (focus (intro w hSw; (try dsimp only at hSw); go_simp; try (with_reducible rfl))); (try simp only [Act.put, List.getElem_toArray, List.getElem_cons_succ, List.getElem_cons_zero, List.setIfInBounds_toArray, List.set_cons_zero, List.set_cons_succ]))
            (refine wpAnyH_take (i := 24) (v := ?_) rfl (by kernel_rfl) (by kernel_rfl) (by kernel_rfl) (fun _ _ _ h => h) (Or.inl ⟨by rfl, ?_⟩) hHeld ?_; rotate_left; (focus (intro w hSw; (try dsimp only at hSw); go_simp; try (with_reducible rfl))); (try simp only [Act.put, List.getElem_toArray, List.getElem_cons_succ, List.getElem_cons_zero, List.setIfInBounds_toArray, List.set_cons_zero, List.set_cons_succ]))
            refine wpAnyH_done (by kernel_rfl) ?_ _
            go_wp2_with fail
            go_roundw
            case rel => exact ⟨k + 1, by first | rfl | go_num, by omega, Lib.hid (b_call HB7.out (b_call HB8.out HB9.out))⟩
            case measure => simp [intOf]; omega
          · refine wp_region_held_drew (S := fun w' => w'.cell? ⟨b1, o1 + j, none⟩ = some (.slice (some ⟨g1, 0, none⟩) n1 n1) ∧ w'.cell? ⟨g1, k * 2, none⟩ = some (.bool true) ∧ w'.cell? ⟨g1, k * 2 + 1, none⟩ = some (.slice da KD.length dc) ∧ w'.cell? ⟨wr.heap.size, 0, none⟩ = some (.bool true) ∧ w'.cell? ⟨wr.heap.size, 1, none⟩ = some (.slice ea KD.length ec)) (by kernel_rfl) (HS.out _ (b_drew (Below.refl _ _))) (fun hHeld => ?_)
            (refine wpAnyH_take (i := 0) (v := ?_) rfl (by kernel_rfl) (by kernel_rfl) (by kernel_rfl) (fun _ _ _ h => h) (Or.inl ⟨by rfl, ?_⟩) hHeld ?_; rotate_left; (focus (intro w hSw; (try dsimp only at hSw); go_simp; try (with_reducible rfl))); (try simp only [Act.put, List.getElem_toArray, List.getElem_cons_succ, List.getElem_cons_zero, List.setIfInBounds_toArray, List.set_cons_zero, List.set_cons_succ]))
            (refine wpAnyH_take (i := 1) (v := ?_) rfl (by kernel_rfl) (by kernel_rfl) (by kernel_rfl) (fun _ _ _ h => h) (Or.inl ⟨by rfl, ?_⟩) hHeld ?_; rotate_left; (focus (intro w hSw; (try dsimp only at hSw); go_simp; try (with_reducible rfl))); (try simp only [Act.put, List.getElem_toArray, List.getElem_cons_succ, List.getElem_cons_zero, List.setIfInBounds_toArray, List.set_cons_zero, List.set_cons_succ]))
            (refine wpAnyH_take (i := 2) (v := ?_) rfl (by kernel_rfl) (by kernel_rfl) (by kernel_rfl) (fun _ _ _ h => h) (Or.inl ⟨by rfl, ?_⟩) hHeld ?_; rotate_left; (focus (intro w hSw; (try dsimp only at hSw); go_simp; try (with_reducible rfl))); (try simp only [Act.put, List.getElem_toArray, List.getElem_cons_succ, List.getElem_cons_zero, List.setIfInBounds_toArray, List.set_cons_zero, List.set_cons_succ]))
            (refine wpAnyH_take (i := 3) (v := ?_) rfl (by kernel_rfl) (by kernel_rfl) (by kernel_rfl) (fun _ _ _ h => h) (Or.inl ⟨by rfl, ?_⟩) hHeld ?_; rotate_left; (focus (intro w hSw; (try dsimp only at hSw); go_simp; try (with_reducible rfl))); (try simp only [Act.put, List.getElem_toArray, List.getElem_cons_succ, List.getElem_cons_zero, List.setIfInBounds_toArray, List.set_cons_zero, List.set_cons_succ]))
            (refine wpAnyH_take (i := 4) (v := ?_) rfl (by kernel_rfl) (by kernel_rfl) (by kernel_rfl) (fun _ _ _ h => h) (Or.inl ⟨by rfl, ?_⟩) hHeld ?_; rotate_left; (focus (intro w hSw; (try dsimp only at hSw); go_simp; try (with_reducible rfl))); (try simp only [Act.put, List.getElem_toArray, List.getElem_cons_succ, List.getElem_cons_zero, List.setIfInBounds_toArray, List.set_cons_zero, List.set_cons_succ]))
            (refine wpAnyH_take (i := 5) (v := ?_) rfl (by kernel_rfl) (by kernel_rfl) (by kernel_rfl) (fun _ _ _ h => h) (Or.inl ⟨by rfl, ?_⟩) hHeld ?_; rotate_left; (focus (intro w hSw; (try dsimp only at hSw); go_simp; try (with_reducible rfl))); (try simp only [Act.put, List.getElem_toArray, List.getElem_cons_succ, List.getElem_cons_zero, List.setIfInBounds_toArray, List.set_cons_zero, List.set_cons_succ]))
            (refine wpAnyH_take (i := 6) (v := ?_) rfl (by kernel_rfl) (by kernel_rfl) (by kernel_rfl) (fun _ _ _ h => h) (Or.inl ⟨by rfl, ?_⟩) hHeld ?_; rotate_left; (focus (intro w hSw; (try dsimp only at hSw); go_simp; try (with_reducible rfl))); (try simp only [Act.put, List.getElem_toArray, List.getElem_cons_succ, List.getElem_cons_zero, List.setIfInBounds_toArray, List.set_cons_zero, List.set_cons_succ]))
            (refine wpAnyH_take (i := 7) (v := ?_) rfl (by kernel_rfl) (by kernel_rfl) (by kernel_rfl) (fun _ _ _ h => h) (Or.inl ⟨by rfl, ?_⟩) hHeld ?_; rotate_left; (focus (intro w hSw; (try dsimp only at hSw); go_simp; try (with_reducible rfl))); (try simp only [Act.put, List.getElem_toArray, List.getElem_cons_succ, List.getElem_cons_zero, List.setIfInBounds_toArray, List.set_cons_zero, List.set_cons_succ]))
            (refine wpAnyH_take (i := 8) (v := ?_) rfl (by kernel_rfl) (by kernel_rfl) (by kernel_rfl) (fun _ _ _ h => h) (Or.inl ⟨by rfl, ?_⟩) hHeld ?_; rotate_left; (focus (intro w hSw; (try dsimp only at hSw); go_simp; try (with_reducible rfl))); (try simp only [Act.put, List.getElem_toArray, List.getElem_cons_succ, List.getElem_cons_zero, List.setIfInBounds_toArray, List.set_cons_zero, List.set_cons_succ]))
            (refine wpAnyH_take (i := 9) (v := ?_) rfl (by kernel_rfl) (by kernel_rfl) (by kernel_rfl) (fun _ _ _ h => h) (Or.inl ⟨by rfl, ?_⟩) hHeld ?_; rotate_left; (focus (intro w hSw; (try dsimp only at hSw); go_simp; try (with_reducible rfl))); (try simp only [Act.put, List.getElem_toArray, List.getElem_cons_succ, List.getElem_cons_zero, List.setIfInBounds_toArray, List.set_cons_zero, List.set_cons_succ]))
            (refine wpAnyH_take (i := 10) (v := ?_) rfl (by kernel_rfl) (by kernel_rfl) (by kernel_rfl) (fun _ _ _ h => h) (Or.inl ⟨by rfl, ?_⟩) hHeld ?_; rotate_left; (focus (intro w hSw; (try dsimp only at hSw); go_simp; try (with_reducible rfl))); (try simp only [Act.put, List.getElem_toArray, List.getElem_cons_succ, List.getElem_cons_zero, List.setIfInBounds_toArray, List.set_cons_zero, List.set_cons_succ]))
            (refine wpAnyH_take (i := 11) (v := ?_) rfl (by kernel_rfl) (by kernel_rfl) (by kernel_rfl) (fun _ _ _ h => h) (Or.inl ⟨by rfl, ?_⟩) hHeld ?_; rotate_left; (focus (intro w hSw; (try dsimp only at hSw); go_simp; try (with_reducible rfl))); (try simp only [Act.put, List.getElem_toArray, List.getElem_cons_succ, List.getElem_cons_zero, List.setIfInBounds_toArray, List.set_cons_zero, List.set_cons_succ]))
            (refine wpAnyH_take (i := 12) (v := ?_) rfl (by kernel_rfl) (by kernel_rfl) (by kernel_rfl) (fun _ _ _ h => h) (Or.inl ⟨by rfl, ?_⟩) hHeld ?_; rotate_left; (focus (intro w hSw; (try dsimp only at hSw); go_simp; try (with_reducible rfl))); (try simp only [Act.put, List.getElem_toArray, List.getElem_cons_succ, List.getElem_cons_zero, List.setIfInBounds_toArray, List.set_cons_zero, List.set_cons_succ]))
            (refine wpAnyH_take (i := 13) (v := ?_) rfl (by kernel_rfl) (by kernel_rfl) (by kernel_rfl) (fun _ _ _ h => h) (Or.inl ⟨by rfl, ?_⟩) hHeld ?_; rotate_left; (focus (intro w hSw; (try dsimp only at hSw); go_simp; try (with_reducible rfl))); (try simp only [Act.put, List.getElem_toArray, List.getElem_cons_succ, List.getElem_cons_zero, List.setIfInBounds_toArray, List.set_cons_zero, List.set_cons_succ]))
            (refine wpAnyH_take (i := 14) (v := ?_) rfl (by kernel_rfl) (by kernel_rfl) (by kernel_rfl) (fun _ _ _ h => h) (Or.inl ⟨by rfl, ?_⟩) hHeld ?_; rotate_left; (focus (intro w hSw; (try dsimp only at hSw); go_simp; try (with_reducible rfl))); (try simp only [Act.put, List.getElem_toArray, List.getElem_cons_succ, List.getElem_cons_zero, List.setIfInBounds_toArray, List.set_cons_zero, List.set_cons_succ]))
            (refine wpAnyH_take (i := 15) (v := ?_) rfl (by kernel_rfl) (by kernel_rfl) (by kernel_rfl) (fun _ _ _ h => h) (Or.inl ⟨by rfl, ?_⟩) hHeld ?_; rotate_left; (focus (intro w hSw; (try dsimp only at hSw); go_simp; try (with_reducible rfl))); (try simp only [Act.put, List.getElem_toArray, List.getElem_cons_succ, List.getElem_cons_zero, List.setIfInBounds_toArray, List.set_cons_zero, List.set_cons_succ]))
            (refine wpAnyH_take (i := 16) (v := ?_) rfl (by kernel_rfl) (by kernel_rfl) (by kernel_rfl) (fun _ _ _ h => h) (Or.inl ⟨by rfl, ?_⟩) hHeld ?_; rotate_left; (focus (intro w hSw; (try dsimp only at hSw); go_simp; try (with_reducible rfl))); (try simp only [Act.put, List.getElem_toArray, List.getElem_cons_succ, List.getElem_cons_zero, List.setIfInBounds_toArray, List.set_cons_zero, List.set_cons_succ]))
            (refine wpAnyH_take (i := 17) (v := ?_) rfl (by kernel_rfl) (by kernel_rfl) (by kernel_rfl) (fun _ _ _ h => h) (Or.inl ⟨by rfl, ?_⟩) hHeld ?_; rotate_left; (focus (intro w hSw; (try dsimp only at hSw); go_simp; try (with_reducible rfl))); (try simp only [Act.put, List.getElem_toArray, List.getElem_cons_succ, List.getElem_cons_zero, List.setIfInBounds_toArray, List.set_cons_zero, List.set_cons_succ]))
            (refine wpAnyH_take (i := 18) (v := ?_) rfl (by kernel_rfl) (by kernel_rfl) (by kernel_rfl) (fun _ _ _ h => h) (Or.inl ⟨by rfl, ?_⟩) hHeld ?_; rotate_left; (focus (intro w hSw; (try dsimp only at hSw); go_simp; try (with_reducible rfl))); (try simp only [Act.put, List.getElem_toArray, List.getElem_cons_succ, List.getElem_cons_zero, List.setIfInBounds_toArray, List.set_cons_zero, List.set_cons_succ]))
            (refine wpAnyH_take (i := 19) (v := ?_) rfl (by kernel_rfl) (by kernel_rfl) (by kernel_rfl) (fun _ _ _ h => h) (Or.inl ⟨by rfl, ?_⟩) hHeld ?_; rotate_left; (focus (intro w hSw; (try dsimp only at hSw); go_simp; try (with_reducible rfl))); (try simp only [Act.put, List.getElem_toArray, List.getElem_cons_succ, List.getElem_cons_zero, List.setIfInBounds_toArray, List.set_cons_zero, List.set_cons_succ]))
            (refine wpAnyH_take (i := 20) (v := ?_) rfl (by kernel_rfl) (by kernel_rfl) (by kernel_rfl) (fun _ _ _ h => h) (Or.inl ⟨by rfl, ?_⟩) hHeld ?_; rotate_left; (focus (intro w hSw; (try dsimp only at hSw); go_simp; try (with_reducible rfl))); (try simp only [Act.put, List.getElem_toArray, List.getElem_cons_succ, List.getElem_cons_zero, List.setIfInBounds_toArray, List.set_cons_zero, List.set_cons_succ]))
            (refine wpAnyH_take (i := 21) (v := ?_) rfl (by kernel_rfl) (by kernel_rfl) (by kernel_rfl) (fun _ _ _ h => h) (Or.inl ⟨by rfl, ?_⟩) hHeld ?_; rotate_left; (focus (intro w hSw; (try dsimp only at hSw); go_simp; try (with_reducible rfl))); (try simp only [Act.put, List.getElem_toArray, List.getElem_cons_succ, List.getElem_cons_zero, List.setIfInBounds_toArray, List.set_cons_zero, List.set_cons_succ]))
            refine wpAnyH_ready (rs := [22]) (by kernel_rfl) (by simp) (AllReadyH.cons rfl (fun K hK => ?_) AllReadyH.nil)
            go_simp
            refine (rsame_self2 (.slice da KD.length dc) (.slice ea KD.length ec) KD _ (readI_below HD.out (b_drew HB8.out)) (readI_below HE.out (b_drew HB8.out)) (by omega)).mono ?_
            rintro e w9 ⟨rfl, hb9⟩
            have HB9 := Lib.hid (b_call (b_drew (Below.refl W8.heap.size W8)) hb9)
            clear hb9
            refine hK.out _ _ (HS.out _ HB9.out) (fun hHeld => ?_)
            clear hK K
            (try simp only [Act.put, List.getElem_toArray, List.getElem_cons_succ, List.getElem_cons_zero, List.setIfInBounds_toArray, List.set_cons_zero, List.set_cons_succ])
            (refine wpAnyH_take (i := 23) (v := ?_) rfl (by kernel_rfl) (by kernel_rfl) (by kernel_rfl) (fun _ _ _ h => h) (Or.inl ⟨by rfl, ?_⟩) hHeld ?_; rotate_left; (focus (intro w hSw; (try dsimp only at hSw); go_simp; try (with_reducible rfl))); (try simp only [Act.put, List.getElem_toArray, List.getElem_cons_succ, List.getElem_cons_zero, List.setIfInBounds_toArray, List.set_cons_zero, List.set_cons_succ]))
            (refine wpAnyH_take (i := 24) (v := ?_) rfl (by kernel_rfl) (by kernel_rfl) (by kernel_rfl) (fun _ _ _ h => h) (Or.inl ⟨by rfl, ?_⟩) hHeld ?_; rotate_left; (focus (intro w hSw; (try dsimp only at hSw); go_simp; try (with_reducible rfl))); (try simp only [Act.put, List.getElem_toArray, List.getElem_cons_succ, List.getElem_cons_zero, List.setIfInBounds_toArray, List.set_cons_zero, List.set_cons_succ]))
            refine wpAnyH_done (by kernel_rfl) ?_ _
            go_wp2_with fail
            go_roundw
            case rel => exact ⟨k + 1, by first | rfl | go_num, by omega, Lib.hid (b_call HB7.out (b_call HB8.out HB9.out))⟩
            case measure => simp [intOf]; omega
        · have k1 : ¬ ((k : Int) < n1) := by omega
          go_wp2_with fail
          go_roundw
          case rel => exact ⟨j + 1, by first | rfl | go_num, by omega, HB7⟩
          case measure => simp [intOf]; omega
    · have j1 : ¬ ((j : Int) < L'.length) := by omega
      go_wp2_with fail
      refine (awake26 _).mono ?_
      rintro e w9 ⟨rfl, hb9⟩
      have HB9 := Lib.hid hb9
      clear hb9
      go_wp2_with fail
      go_ret
      exact ⟨rfl, b_call HBW.out (b_call HB6.out (b_call HBR.out HB9.out))⟩
end Go.Proofs.Ytdmidnmciaediaa
