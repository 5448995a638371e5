/- VerifyPolls, walked: whatever the program, the place and the ways gone, the answer is true. Conditions: the program and the row read as lists. -/
import Derived.Test.YtdmidnmciaediaaVerV0
import Derived.Laws.Bits128
namespace Go.Proofs.Ytdmidnmciaediaa
open Go.RowKit
set_option linter.unusedVariables false
set_option linter.unusedSimpArgs false
attribute [local go_sem] over_cell over_frozen
theorem i64_and15 (n : Int) : bits .and .i64 n 15 = n % 16 := by
  have h15 : (BitVec.ofInt 64 15).toNat = 2 ^ 4 - 1 := by decide
  have key : (BitVec.ofInt 64 n &&& BitVec.ofInt 64 15).toNat = (n % ((2 ^ 64 : Nat) : Int)).toNat % 2 ^ 4 := by
    rw [BitVec.toNat_and, BitVec.toNat_ofInt, h15, Nat.and_two_pow_sub_one_eq_mod]
  show IntKind.i64.wrap ((BitVec.ofInt 64 n &&& BitVec.ofInt 64 15).toNat : Nat) = n % 16
  rw [key, IntKind.wrap_i64]
  omega
theorem eff_ways {P : PrM} {f : FnM} {k : Nat} {st : List Int} (h : (effect P f k st).c = 0) : (effect P f k st).p = waysI (codeAt f k) k ∧ ∀ j ∈ waysI (codeAt f k) k, j ≤ (k : Int) → (codeAt f j).op = 16 := by
  unfold effect effD at *
  split at h
  · rename_i q; exact absurd h q
  · rename_i q0
    split at h
    · exact absurd h (by decide)
    · rename_i q1
      split at h
      · exact absurd h (by decide)
      · rename_i q2
        split at h
        · exact absurd h (by decide)
        · rename_i q3
          split at h
          · exact absurd h (by decide)
          · rename_i q4
            rw [if_neg q0, if_neg q1, if_neg q2, if_neg q3, if_neg q4]
            refine ⟨rfl, fun j hj hk => ?_⟩
            by_cases e : (codeAt f j).op = 16
            · exact e
            · exact absurd (List.any_eq_true.2 ⟨j, hj, by rw [decide_eq_true hk, decide_eq_true e]; rfl⟩) q4
theorem store4 {w W : World} {x y z u : Value} {T : TypeId} {c0 : Array Value} (hw : c0.size = 4) (h : W = ((((w.alloc (.cells c0 T)).setCell ⟨w.heap.size, 0, none⟩ x).setCell ⟨w.heap.size, 1, none⟩ y).setCell ⟨w.heap.size, 2, none⟩ z).setCell ⟨w.heap.size, 3, none⟩ u) : Blk W w.heap.size [x, y, z, u] ∧ Below w.heap.size w W := by
  subst h
  have hb := blk_new w c0 T
  obtain ⟨a0, a1, a2, a3, e⟩ : ∃ a0 a1 a2 a3, c0.toList = [a0, a1, a2, a3] := by
    have hl : c0.toList.length = 4 := by simpa using hw
    match c0.toList, hl with
    | [a0, a1, a2, a3], _ => exact ⟨a0, a1, a2, a3, rfl⟩
  rw [e] at hb
  exact ⟨blk_set (blk_set (blk_set (blk_set hb 0 _) 1 _) 2 _) 3 _, b_grown (b_alloc (Below.refl _ _) _) (gb_set (gb_set (gb_set (gb_set (gb_refl _ (some w.heap.size)) _ _ _) _ _ _) _ _ _) _ _ _) (Nat.le_refl _)⟩
theorem bool_at {w : World} {a : Option Addr} {c : Nat} {L : List Bool} (h : ReadR bolE w (.slice a L.length c) L) {j : Nat} (hj : j < L.length) : ∃ b o, a = some ⟨b, o, none⟩ ∧ b < w.heap.size ∧ w.cell? ⟨b, o + j, none⟩ = some (.bool L[j]) := by
  obtain ⟨b, o, cap, e, h1, h2, h3, h4⟩ := readR_pos h (by omega)
  injection e with e1 _ e3
  have z := h4 j hj 0 (by decide)
  have e2 : o + (j * bolE.size + 0) = o + j := by show o + (j * 1 + 0) = o + j; omega
  rw [e2] at z
  exact ⟨b, o, e1, h3, z⟩
theorem retI_lit {w w' : World} {xs : List Int} {e : Ending} {n : Nat} (h : RetI w xs e w') (hn : xs.length = n) : ∃ a c, e = .returned (.slice a n c) ∧ ReadI w' (.slice a n c) xs ∧ Below w.heap.size w w' := by
  subst hn; exact h
/-- What stands ahead of a step. -/
def PollAt (f : FnM) (M : List (Option (List Int))) (a n : Nat) : Prop := (M.getD a none).isSome = true ∧ (n ≤ a ∨ (codeAt f a).op = 16)
theorem poll_step {P : PrM} {f : FnM} {M : List (Option (List Int))} {a n : Nat} (hG : GoodE P f) (hF : FinF P f M) (ha : a < f.code.length) (h : PollAt f M a n) (h16 : (codeAt f a).op ≠ 16) : n ≤ a ∧ ∀ j ∈ waysI (codeAt f a) a, ∃ y : Nat, j = y ∧ y < f.code.length ∧ PollAt f M y (n + 1) := by
  have hna : n ≤ a := h.2.resolve_right h16
  refine ⟨hna, fun j hj => ?_⟩
  obtain ⟨st, hst⟩ : ∃ st, M.getD a none = some st := by
    cases q : M.getD a none with
    | none => have := h.1; rw [q] at this; cases this
    | some st => exact ⟨st, rfl⟩
  obtain ⟨c0, c1⟩ := hF.cl a st hst
  obtain ⟨e1, e2⟩ := eff_ways c0
  obtain ⟨o1, _, _⟩ := eff_on hG ha c0
  rw [e1] at o1 c1
  obtain ⟨b1, b2⟩ := o1 j hj
  have b3 := c1 j hj
  refine ⟨j.toNat, by omega, by omega, by rw [b3]; rfl, ?_⟩
  by_cases q : j ≤ (a : Int)
  · right
    have := e2 j hj q
    have e : ((j.toNat : Nat) : Int) = j := by omega
    rw [e]; exact this
  · left; omega
set_option maxRecDepth 100000 in
set_option maxHeartbeats 4000000 in
theorem verifyPolls_any (p : PrV) (P : PrM) (f0 at0 : Int) (wa : Option Addr) (wn wcp : Nat) (ls : List Bool) (w : World) (h : ReadP w p P) (hx : ReadR bolE w (.slice wa wn wcp) ls) : Calls Try.prog 10 #[aggP p, .int .i64 f0, .int .i64 at0, .slice wa wn wcp] w fun e w' => e = .returned (.bool true) ∧ Below w.heap.size w w' := by
  have HWX := Lib.hid hx
  obtain ⟨_, cap8, ewx, hwx1, hwx2⟩ := readR_len hx
  injection ewx with ewa ewn ewc
  clear ewa
  subst ewn ewc
  have wx1 : (ls.length : Int) ≤ wcp := by omega
  have wx2 : (wcp : Int) ≤ 9223372036854775807 := by unfold maxLen at hwx2; omega
  clear hx hwx1 hwx2
  have H := Lib.hid h
  obtain ⟨C, hC⟩ : ∃ C, C = cutP P := ⟨_, rfl⟩
  have HC := Lib.hid hC
  have HSM : Hid (SmallP C) := by show SmallP C; rw [hC]; exact small_cut P
  obtain ⟨R, hR⟩ : ∃ R, R = checkM C := ⟨_, rfl⟩
  have HRR := Lib.hid hR
  obtain ⟨u, ⟨ga, gn, gc⟩, m, ⟨fa, fn, fc⟩⟩ := p
  clear h hC hR
  unfold aggP Sl.v
  simp only
  have HB0 := Lib.hid (b_alloc (Below.refl w.heap.size w) (.cells #[.bool u, .slice ga gn gc, .int .i64 m, .slice fa fn fc] 25))
  have HX0 := Lib.hid (blk_new w #[.bool u, .slice ga gn gc, .int .i64 m, .slice fa fn fc] 25)
  go_enter Try.func10, Try.ntmps10
  go_wp2_with fail
  refine (cut_made ⟨u, ⟨ga, gn, gc⟩, m, ⟨fa, fn, fc⟩⟩ P w _ H.out HB0.out).mono ?_
  rintro e w1 ⟨q, rfl, hcm, hb1⟩
  rw [← HC.out] at hcm
  obtain ⟨qu, ⟨qa, qn, qc⟩, qm, ⟨ra, rn, rc⟩⟩ := q
  have BX1 := blk_below HX0.out hb1
  have HB1 := Lib.hid (b_call HB0.out hb1)
  have HCM := Lib.hid hcm
  have hl1 := BX1.1
  have HX1 := Lib.hid BX1
  obtain ⟨c0, c1, c2, c3, cf⟩ := blk4 BX1
  clear hcm hb1 BX1
  unfold aggP Sl.v
  simp only
  go_upto_region 2 with fail
  refine wp_named ?_
  intro W hW
  have BW : Blk W w.heap.size [.bool qu, .slice qa qn qc, .int .i64 qm, .slice ra rn rc] := by rw [hW]; exact blk_set (blk_set (blk_set (blk_set HX1.out 0 _) 1 _) 2 _) 3 _
  have GW := gb_set (gb_set (gb_set (gb_set (gb_refl w1 (some w.heap.size)) 0 none (.bool qu)) 1 none (.slice qa qn qc)) 2 none (.int .i64 qm)) 3 none (.slice ra rn rc)
  rw [← hW] at GW
  have hBW : Below w.heap.size w W := b_grown HB1.out GW (Nat.le_refl _)
  have RW : ReadP W ⟨qu, ⟨qa, qn, qc⟩, qm, ⟨ra, rn, rc⟩⟩ C := cutMade_read (cutMade_grown HCM.out GW (by simp)) hBW
  have HR := Lib.hid RW
  have HBW := Lib.hid hBW
  have HK : Hid (∀ w', Below W.heap.size W w' → (w'.cell? ⟨w.heap.size, 0, none⟩ = some (.bool qu) ∧ w'.cell? ⟨w.heap.size, 1, none⟩ = some (.slice qa qn qc) ∧ w'.cell? ⟨w.heap.size, 2, none⟩ = some (.int .i64 qm) ∧ w'.cell? ⟨w.heap.size, 3, none⟩ = some (.slice ra rn rc)) ∧ w.heap.size < w'.heap.size) := Lib.hid (fun w' hb => by
    obtain ⟨y0, y1, y2, y3, _⟩ := blk4 (blk_below BW hb); exact ⟨⟨y0, y1, y2, y3⟩, (blk_below BW hb).1⟩)
  clear hW GW hBW RW c0 c1 c2 c3 cf BW HX1 hl1 HCM HB1
  obtain ⟨⟨c0, c1, c2, c3⟩, cz⟩ := HK.out W (Below.refl _ _)
  go_wp2_with fail
  refine (ours25_any ⟨qu, ⟨qa, qn, qc⟩, qm, ⟨ra, rn, rc⟩⟩ C _ HR.out HSM.out).mono ?_
  rintro e w2 ⟨o, rfl, ho, hb2⟩
  have HV := Lib.hid (vcheck_any o C w2 ho)
  rw [← HRR.out] at HV
  have HB2 := Lib.hid hb2
  clear ho hb2 c0 c1 c2 c3 cz
  cases R with
  | inr x =>
    have hx2 : x.2.2 ≠ 0 := checkM_code HRR.out.symm
    have hx3 : (x.2.2 != 0) = true := bne_iff_ne.2 hx2
    go_wp2_with fail
    refine HV.out.mono ?_
    rintro e w3 ⟨he, hb3⟩
    have he : e = .returned (.tuple #[.slice none 0 0, .agg #[.int .i64 x.1, .int .i64 x.2.1, .int .i64 x.2.2]]) := he
    subst he
    have HB3 := Lib.hid (b_call HB2.out hb3)
    have HA3 := Lib.hid (b_alloc (Below.refl w3.heap.size w3) (.cells #[.int .i64 0, .int .i64 0, .int .i64 0] 85))
    clear hb3 hx2
    go_upto_region 3 with fail
    refine wp_named ?_
    intro W4 hW4
    have S4 : Blk W4 w3.heap.size [.int .i64 x.1, .int .i64 x.2.1, .int .i64 x.2.2] ∧ Below w3.heap.size w3 W4 := by
      first
      | (rw [hW4]; exact ⟨blk_new _ _ _, b_alloc (Below.refl _ _) _⟩)
      | exact store3 rfl hW4
    have HB4 := Lib.hid (b_call HB3.out S4.2)
    obtain ⟨d0, d1, d2, _⟩ := v_blk3 S4.1
    have s4z := S4.1.1
    clear hW4 S4
    go_wp2_with fail
    refine (awake26 _).mono ?_
    rintro e w9 ⟨rfl, hb9⟩
    have HB9 := Lib.hid hb9
    clear hb9
    go_wp2_with fail
    go_ret
    exact ⟨rfl, b_call HBW.out (b_call HB4.out HB9.out)⟩
  | inl Ms =>
    obtain ⟨hmay, hml, hfin⟩ := checkM_all HRR.out.symm
    obtain ⟨hpos, hsm, hall⟩ := may_good hmay
    have HFIN := Lib.hid hfin; have HALL := Lib.hid hall; have HSP := Lib.hid hsm
    have HML := Lib.hid hml
    have hlen17 : (C.fs.length : Int) ≤ 17 := by have := HSP.out.f; omega
    clear hmay hfin hpos hsm hall
    go_wp2_with fail
    refine HV.out.mono ?_
    rintro e w3 ⟨⟨a, c, L, rfl, hL, hA⟩, hb3⟩
    unfold wrongV
    have hLL : L.length = C.fs.length := hA.1.trans hml
    have HLL := Lib.hid hLL
    have HL := Lib.hid hL; have HA := Lib.hid hA
    have HB3 := Lib.hid (b_call HB2.out hb3)
    have hLc : (C.fs.length : Int) ≤ c := by
      obtain ⟨_, cp, e, h1, _⟩ := readR_len hL
      injection e with _ _ e3
      rw [← e3] at h1; omega
    have hc9 : (c : Int) ≤ 9223372036854775807 := by
      obtain ⟨_, cp, e, _, h2⟩ := readR_len hL
      injection e with _ _ e3
      unfold maxLen at h2; rw [← e3] at h2; omega
    rw [hLL]
    clear hLL hml hb3 hL hA HV
    go_upto_region 3 with fail
    refine wp_named ?_
    intro W4 hW4
    have S4 : Blk W4 w3.heap.size [.int .i64 0, .int .i64 0, .int .i64 0] ∧ Below w3.heap.size w3 W4 := by
      first
      | (rw [hW4]; exact ⟨blk_new _ _ _, b_alloc (Below.refl _ _) _⟩)
      | exact store3 rfl hW4
    have HB4 := Lib.hid (b_call HB3.out S4.2)
    have HL4 := Lib.hid (readR_below HL.out S4.2)
    have HA4 := Lib.hid (allR_below HA.out S4.2)
    obtain ⟨d0, d1, d2, _⟩ := v_blk3 S4.1
    have s4z := S4.1.1
    obtain ⟨⟨c0, c1, c2, c3⟩, cz⟩ := HK.out W4 HB4.out
    obtain ⟨n1, n2, n3⟩ := fn_len HR.out
    simp only at n1 n2 n3
    subst n1
    clear hW4 S4 HL HA
    go_upto_region 5 with fail
    clear d0 d1 d2 s4z
    have hpos9 : 0 < C.fs.length := by
      have h := HRR.out
      rcases Nat.eq_zero_or_pos C.fs.length with q | q
      · exact absurd (may_good (checkM_all h.symm).1).1 (by omega)
      · exact q
    obtain ⟨kn, hkn, hk16⟩ : ∃ kn : Nat, bits BinOp.and IntKind.i64 f0 15 = (kn : Int) ∧ kn < 16 := ⟨(f0 % 16).toNat, by rw [i64_and15]; omega, by omega⟩
    obtain ⟨j, hj⟩ : ∃ j, j = kn % C.fs.length := ⟨_, rfl⟩
    have hm2 : (kn : Int) % (C.fs.length : Int) = (j : Int) := by rw [hj]; rfl
    have hm1 : (kn : Int).tmod (C.fs.length : Int) = (j : Int) := by rw [Int.tmod_eq_emod_of_nonneg (by omega)]; exact hm2
    have hlt : j < C.fs.length := by rw [hj]; exact Nat.mod_lt _ hpos9
    have hpos8 : ¬ ((C.fs.length : Int) = 0) := by omega
    have hpos7 : ((C.fs.length : Int) == 0) = false := beq_false_of_ne hpos8
    have j0 : (0 : Int) ≤ j := by omega
    have j1 : (j : Int) < C.fs.length := by omega
    have jc : (j : Int) < c := by omega
    have jrc : (j : Int) < rc := by omega
    have hlt1 : j < L.length := by rw [HLL.out]; exact hlt
    have hltM : j < Ms.length := by rw [HML.out]; exact hlt
    obtain ⟨b1, o1, rfl, hb1, _, _, hc1⟩ := sl_at HL4.out hlt1
    obtain ⟨F1, hr1⟩ := HA4.out.2 j hlt1 hltM
    have HFF := Lib.hid (HFIN.out j hlt hltM)
    obtain ⟨x1, x2, x3, x4⟩ := HALL.out _ (List.getElem_mem hlt)
    have HF2 := Lib.hid x2
    obtain ⟨b2, o2, ea, hb2, v, hd, e0, e1, e2, e3⟩ := fn_at HR.out hlt
    simp only at ea
    subst ea
    have hvr : v.r = C.fs[j].r := hd.r
    rw [← hvr] at e2
    obtain ⟨cb, co, ccap, ec, hcc1, hcc2, hcb, h4⟩ := readR_pos hd.c x3
    obtain ⟨⟨pa, pn, pc⟩, ⟨la, ln, lc⟩, r, ⟨ca, cn, cc⟩⟩ := v
    have ec2 : Value.slice ca cn cc = .slice (some ⟨cb, co, none⟩) C.fs[j].code.length ccap := ec
    injection ec2 with ec3 ec4 ec5
    subst ec3 ec4 ec5
    simp only at e0 e1 e2 e3
    have en : L[j].2 = C.fs[j].code.length := hr1.lm.symm.trans HFF.out.len
    rw [en] at hc1 hr1
    have HC4 := Lib.hid h4
    clear h4
    generalize Ms[j] = M at *
    generalize C.fs[j] = f at *
    generalize L[j].1 = g1 at *
    obtain ⟨N, hN⟩ : ∃ N, N = f.code.length := ⟨_, rfl⟩
    have HN := Lib.hid hN
    rw [← hN] at hc1 hr1 e3 x3 x4 hcc1
    have n9 : (N : Int) ≤ 200 := by omega
    have n8 : (0 : Int) < N := by omega
    have ncc : (N : Int) ≤ cc := by omega
    have ncd : (cc : Int) ≤ 9223372036854775807 := by unfold maxLen at hcc2; omega
    have HC1 := Lib.hid hc1; have HR1 := Lib.hid hr1
    have HZ := Lib.hid (And.intro hb1 (And.intro hb2 hcb))
    have hbw := HB4.out
    have q2z : b2 < W4.heap.size := Nat.lt_of_lt_of_le hb2 hbw.size
    have d0 := ((bcell hbw).1 _ _ hb2).trans e0
    have d1 := ((bcell hbw).1 _ _ hb2).trans e1
    have d2 := ((bcell hbw).1 _ _ hb2).trans e2
    have d3 := ((bcell hbw).1 _ _ hb2).trans e3
    clear hr1 hc1 en hltM hlt1 hb1 hb2 e0 e1 e2 e3 hd hvr ec hcc1 hcc2 hN hbw x1 x2 hcb hj
    go_upto_region 7 with fail
    refine wp_named ?_
    intro W5 hW5
    have S5 : Blk W5 W4.heap.size [.slice pa pn pc, .slice la ln lc, .int .i64 r, .slice (some ⟨cb, co, none⟩) N cc] ∧ Below W4.heap.size W4 W5 := by
      first
      | (rw [hW5]; exact ⟨blk_new _ _ _, b_alloc (Below.refl _ _) _⟩)
      | exact store4 rfl hW5
    have HS5 := Lib.hid S5.1
    have HB45 := Lib.hid S5.2
    have HB5 := Lib.hid (b_call HB4.out S5.2)
    obtain ⟨y0, y1, y2, y3, _⟩ := blk4 S5.1
    have yz := S5.1.1
    clear hW5 S5 d0 d1 d2 d3 q2z c0 c1 c2 c3 cz hm1 hm2 hkn hk16 hpos8 hpos7
    obtain ⟨kn2, hkn2, hk127⟩ : ∃ kn : Nat, bits BinOp.and IntKind.i64 at0 127 = (kn : Int) ∧ kn < 128 := ⟨(at0 % 128).toNat, by rw [i64_and127]; omega, by omega⟩
    obtain ⟨k, hk⟩ : ∃ k, k = kn2 % N := ⟨_, rfl⟩
    have hm2 : (kn2 : Int) % (N : Int) = (k : Int) := by rw [hk]; rfl
    have hm1 : (kn2 : Int).tmod (N : Int) = (k : Int) := by rw [Int.tmod_eq_emod_of_nonneg (by omega)]; exact hm2
    have hkl : k < N := by rw [hk]; exact Nat.mod_lt _ (by omega)
    have hpos8 : ¬ ((N : Int) = 0) := by omega
    have hpos7 : ((N : Int) == 0) = false := beq_false_of_ne hpos8
    have k0 : (0 : Int) ≤ k := by omega
    have k1 : (k : Int) < N := by omega
    have T1 := rowT_below HR1.out HB45.out
    have hk1 : k < F1.length := by rw [T1.lf]; exact hkl
    have f10 := (fact_at T1.fr hk1).1
    have p1 := (T1.ok k hk1).1
    rw [p1] at f10
    have g1z := T1.fr.1
    have q1 := ((bcell HB45.out).1 _ _ HZ.out.1).trans HC1.out
    have q1z : b1 < W5.heap.size := Nat.lt_of_lt_of_le HZ.out.1 HB45.out.size
    have HKL := Lib.hid hkl
    clear T1 hk1 p1 hk hkl
    cases hm : M.getD k none with
    | none =>
      rw [hm] at f10
      simp only [Option.isSome_none] at f10
      go_wp2_with fail
      refine (awake26 _).mono ?_
      rintro e w9 ⟨rfl, hb9⟩
      have HB9 := Lib.hid hb9
      clear hb9
      go_wp2_with fail
      go_ret
      exact ⟨rfl, b_call HBW.out (b_call HB5.out HB9.out)⟩
    | some st =>
      rw [hm] at f10
      simp only [Option.isSome_some] at f10
      have HPA : Hid (PollAt f M k 0) := Lib.hid ⟨by rw [hm]; rfl, Or.inl (Nat.zero_le _)⟩
      clear hm
      go_wp2_with fail
      clear f10 g1z q1 q1z y0 y1 y2 y3 yz hm1 hm2 hkn2 hk127 hpos8 hpos7
      go_loopw [2, 12] (fun va vn wr => ∃ a n : Nat, va = .int .i64 a ∧ vn = .int .i64 n ∧ n ≤ N ∧ a < N ∧ Hid (PollAt f M a n) ∧ Hid (Below W5.heap.size W5 wr)) (fun _ vn _ => N - (intOf vn).toNat)
      case atStart => exact ⟨k, 0, rfl, rfl, Nat.zero_le _, HKL.out, HPA, Lib.hid (Below.refl _ _)⟩
      case round =>
        obtain ⟨a, n, rfl, rfl, hn, ha, HPO, HBR⟩ := hrel
        have a0 : (0 : Int) ≤ a := by omega
        have a1 : (a : Int) < N := by omega
        have m0 : (0 : Int) ≤ n := by omega
        have m1 : (n : Int) ≤ N := by omega
        have haf : a < f.code.length := by rw [← HN.out]; exact ha
        have hbw := b_call HB5.out HBR.out
        obtain ⟨z0, z1, z2, z3⟩ := in_cells HC4.out a haf
        have v0 := ((bcell hbw).1 _ _ HZ.out.2.2).trans z0
        have v1 := ((bcell hbw).1 _ _ HZ.out.2.2).trans z1
        have v2 := ((bcell hbw).1 _ _ HZ.out.2.2).trans z2
        have v3 := ((bcell hbw).1 _ _ HZ.out.2.2).trans z3
        have vz : cb < wr.heap.size := Nat.lt_of_lt_of_le HZ.out.2.2 hbw.size
        obtain ⟨_, _, _, y3, _⟩ := blk4 (blk_below HS5.out HBR.out)
        have yz := (blk_below HS5.out HBR.out).1
        have hca : codeAt f a = f.code[a] := by
          unfold codeAt
          rw [show ((a : Int).toNat) = a from rfl, List.getD_eq_getElem?_getD, List.getElem?_eq_getElem haf]; rfl
        have HST := Lib.hid (fun h16 => poll_step (n := n) HF2.out HFF.out haf HPO.out h16)
        rw [hca] at HST
        generalize f.code[a] = ins at *
        obtain ⟨op, xx, ia, ib⟩ := ins
        simp only at v0 v1 v2 v3
        clear z0 z1 z2 z3 hca
        by_cases h16 : op = 16
        · clear HST
          subst h16
          go_wp2_with fail
          refine (awake26 _).mono ?_
          rintro e w9 ⟨rfl, hb9⟩
          have HB9 := Lib.hid hb9
          clear hb9
          go_wp2_with fail
          go_ret
          exact ⟨rfl, b_call HBW.out (b_call hbw HB9.out)⟩
        · by_cases h15 : op = 15
          · clear HST h16
            subst h15
            go_wp2_with fail
            refine (awake26 _).mono ?_
            rintro e w9 ⟨rfl, hb9⟩
            have HB9 := Lib.hid hb9
            clear hb9
            go_wp2_with fail
            go_ret
            exact ⟨rfl, b_call HBW.out (b_call hbw HB9.out)⟩
          · by_cases h35 : op = 35
            · clear HST h16 h15
              subst h35
              go_wp2_with fail
              refine (awake26 _).mono ?_
              rintro e w9 ⟨rfl, hb9⟩
              have HB9 := Lib.hid hb9
              clear hb9
              go_wp2_with fail
              go_ret
              exact ⟨rfl, b_call HBW.out (b_call hbw HB9.out)⟩
            · obtain ⟨hna, hst⟩ := HST.out h16
              have n16 : (op == 16) = false := beq_false_of_ne h16
              have n15 : (op == 15) = false := beq_false_of_ne h15
              have n35 : (op == 35) = false := beq_false_of_ne h35
              have HW := Lib.hid hst
              have HRW := Lib.hid (rways_any op xx ia ib a (by omega) wr)
              have HHB := Lib.hid hbw
              clear HST hst hbw
              by_cases h12 : op = 12
              · subst h12
                clear h16 h15 h35 n16 n15 n35
                obtain ⟨y, rfl, hy, hpy⟩ := HW.out ia (by show ia ∈ [ia]; simp)
                have HPY := Lib.hid hpy
                clear hpy HW
                rw [show waysI ⟨12, xx, (y : Int), ib⟩ a = [(y : Int)] from rfl] at HRW
                go_wp2_with fail
                refine HRW.out.mono ?_
                intro e w6 h6
                obtain ⟨l1, hl1⟩ : ∃ l1 : Nat, 1 = l1 := ⟨_, rfl⟩
                obtain ⟨ka, kc, rfl, hr6, hb6⟩ := retI_lit h6 (n := l1) hl1
                have l1a : (0 : Int) < l1 := by omega
                have l1b : ¬ ((1 : Int) < l1) := by omega
                have l1c : ((l1 : Int) == 0) = false := beq_false_of_ne (by omega)
                have l1d : (l1 : Int) ≤ 1 := by omega
                obtain ⟨bl, off, cp, e1, r1, r2, hbl, r4⟩ := readI_pos hr6 (by simp)
                injection e1 with e1 _ e3
                subst e1
                have hcx : w6.cell? ⟨bl, off + 0, none⟩ = some (.int .i64 y) := r4 0 (by simp)
                rw [Nat.add_zero] at hcx
                have hkc : (l1 : Int) ≤ kc := by (have r1' : 1 ≤ cp := r1); omega
                have HB6 := Lib.hid (b_call HBR.out hb6)
                clear r4 r1 r2 e3 hr6 hb6 h6
                try clear hl1
                go_wp2_with fail
                go_roundw
                case rel => exact ⟨y, n + 1, by first | rfl | go_num, by first | rfl | go_num, by omega, by have := HN.out; omega, HPY, HB6⟩
                case measure => simp [intOf]; omega
              · have n12 : (op == 12) = false := beq_false_of_ne h12
                by_cases h13 : op = 13
                · subst h13
                  clear h16 h15 h35 n16 n15 n35 h12 n12
                  obtain ⟨y, rfl, hy, hpy⟩ := HW.out ia (by show ia ∈ [(a : Int) + 1, ia]; simp)
                  obtain ⟨y', ey', hy', hpy'⟩ := HW.out ((a : Int) + 1) (by show _ ∈ [(a : Int) + 1, _]; simp)
                  obtain rfl : y' = a + 1 := by omega
                  have HPY := Lib.hid hpy
                  have HPY' := Lib.hid hpy'
                  have HY' := Lib.hid hy'
                  clear hpy hpy' HW ey' hy'
                  rw [show waysI ⟨13, xx, (y : Int), ib⟩ a = [(a : Int) + 1, (y : Int)] from rfl] at HRW
                  go_wp2_with fail
                  refine HRW.out.mono ?_
                  intro e w6 h6
                  obtain ⟨ka, kc, rfl, hr6, hb6⟩ := retI_lit h6 (n := 2) rfl
                  obtain ⟨bl, off, cp, e1, r1, r2, hbl, r4⟩ := readI_pos hr6 (by simp)
                  injection e1 with e1 _ e3
                  subst e1
                  have hcx : w6.cell? ⟨bl, off + 0, none⟩ = some (.int .i64 ((a : Int) + 1)) := r4 0 (by simp)
                  have hcy : w6.cell? ⟨bl, off + 1, none⟩ = some (.int .i64 y) := r4 1 (by simp)
                  rw [Nat.add_zero] at hcx
                  have hkc : (2 : Int) ≤ kc := by simp at r1; omega
                  have HB6 := Lib.hid (b_call HBR.out hb6)
                  have HBT := Lib.hid (b_call HBW.out (b_call HHB.out hb6))
                  clear r4 r1 r2 e3 hr6 hb6 h6
                  try clear hl1
                  by_cases hnl : n < ls.length
                  · obtain ⟨wb, wo, rfl, hwb, hwc⟩ := bool_at HWX.out hnl
                    have wc := ((bcell HBT.out).1 _ _ hwb).trans hwc
                    have wz : wb < w6.heap.size := Nat.lt_of_lt_of_le hwb HBT.out.size
                    have nl1 : (n : Int) < ls.length := by omega
                    have nl2 : (n : Int) < wcp := by omega
                    generalize ls[n] = tk at *
                    clear hwb hwc
                    cases tk
                    · go_wp2_with fail
                      go_roundw
                      case rel => exact ⟨a + 1, n + 1, by first | rfl | go_num, by first | rfl | go_num, by omega, by have := HY'.out; have := HN.out; omega, HPY', HB6⟩
                      case measure => simp [intOf]; omega
                    · go_wp2_with fail
                      go_roundw
                      case rel => exact ⟨y, n + 1, by first | rfl | go_num, by first | rfl | go_num, by omega, by have := HN.out; omega, HPY, HB6⟩
                      case measure => simp [intOf]; omega
                  · have nl1 : ¬ ((n : Int) < ls.length) := by omega
                    go_wp2_with fail
                    go_roundw
                    case rel => exact ⟨a + 1, n + 1, by first | rfl | go_num, by first | rfl | go_num, by omega, by have := HY'.out; have := HN.out; omega, HPY', HB6⟩
                    case measure => simp [intOf]; omega
                · have n13 : (op == 13) = false := beq_false_of_ne h13
                  have hwe : waysI ⟨op, xx, ia, ib⟩ a = [(a : Int) + 1] := by unfold waysI; rw [if_neg h12, if_neg h13, if_neg (by simp only; omega)]
                  rw [hwe] at HW HRW
                  obtain ⟨y', ey', hy', hpy'⟩ := HW.out ((a : Int) + 1) (by simp)
                  obtain rfl : y' = a + 1 := by omega
                  have HPY' := Lib.hid hpy'
                  have HY' := Lib.hid hy'
                  clear hpy' HW ey' hy' hwe h12 h13 h15 h16 h35
                  go_wp2_with fail
                  refine HRW.out.mono ?_
                  intro e w6 h6
                  obtain ⟨l1, hl1⟩ : ∃ l1 : Nat, 1 = l1 := ⟨_, rfl⟩
                  obtain ⟨ka, kc, rfl, hr6, hb6⟩ := retI_lit h6 (n := l1) hl1
                  have l1a : (0 : Int) < l1 := by omega
                  have l1b : ¬ ((1 : Int) < l1) := by omega
                  have l1c : ((l1 : Int) == 0) = false := beq_false_of_ne (by omega)
                  have l1d : (l1 : Int) ≤ 1 := by omega
                  obtain ⟨bl, off, cp, e1, r1, r2, hbl, r4⟩ := readI_pos hr6 (by simp)
                  injection e1 with e1 _ e3
                  subst e1
                  have hcx : w6.cell? ⟨bl, off + 0, none⟩ = some (.int .i64 ((a : Int) + 1)) := r4 0 (by simp)
                  rw [Nat.add_zero] at hcx
                  have hkc : (l1 : Int) ≤ kc := by (have r1' : 1 ≤ cp := r1); omega
                  have HB6 := Lib.hid (b_call HBR.out hb6)
                  clear r4 r1 r2 e3 hr6 hb6 h6
                  try clear hl1
                  go_wp2_with fail
                  go_roundw
                  case rel => exact ⟨a + 1, n + 1, by first | rfl | go_num, by first | rfl | go_num, by omega, by have := HY'.out; have := HN.out; omega, HPY', HB6⟩
                  case measure => simp [intOf]; omega
end Go.Proofs.Ytdmidnmciaediaa
