/- PagesWhole, walked: whatever calls, the answer is true. Conditions: the calls read as a list; their places are ints. -/
import Derived.Test.YtfbdnjmljdfjjaaPagePlays
namespace Go.Proofs.Ytfbdnjmljdfjjaa
open Go.RowKit
set_option linter.unusedVariables false
set_option linter.unusedSimpArgs false
attribute [local go_sem] over_cell over_frozen field_k field_n
theorem sum_mono (L : List Row4) (a : Nat) : ∀ d, sumN L a ≤ sumN L (a + d)
  | 0 => Nat.le_refl _
  | d + 1 => by
    have := sum_mono L a d
    show sumN L a ≤ sumN L (a + d) + _
    omega
theorem sum_le {L : List Row4} (hw : WF L) {k : Nat} (hk : k ≤ L.length) : countI L 0 L.length 0 + sumN L k ≤ L.length := by
  have := sum_all hw
  have h := sum_mono L k (L.length - k)
  rw [show k + (L.length - k) = L.length by omega] at h
  omega
set_option maxRecDepth 100000 in
set_option maxHeartbeats 2000000 in
theorem pagesWhole_any (n0 : Int) (h0 : 0 ≤ n0) (h1 : n0 < 256) (u : Value) (ops : List OpP) (w : World) (h : ReadR opE w u ops) (hg : ∀ o ∈ ops, GoodO o) :
    Calls Try.prog 3 #[.int .u8 n0, u] w fun e w' => e = .returned (.bool true) ∧ Below w.heap.size w w' := by
  obtain ⟨m, hm⟩ : ∃ m : Nat, n0 % 40 = m := ⟨(n0 % 40).toNat, by omega⟩
  have hm40 : m < 40 := by omega
  have HNEW := Lib.hid (tnew_any (m : Int))
  have HRN := Lib.hid (rnew_any (m : Int))
  have hsz : sizeP (m : Int) = m := by unfold sizeP; rw [if_neg (by omega), if_neg (by omega)]; omega
  rw [hsz] at HNEW HRN
  have HM := Lib.hid hm
  obtain ⟨a, cap, rfl, c1, c2, c3, c4⟩ := h
  have hcm := cap_le c2
  have H4 := Lib.hid c4
  have HG := Lib.hid hg
  have hlm : (ops.length : Int) ≤ 9223372036854775807 := by omega
  clear hsz c4 hg c3
  go_enter Try.func3, Try.ntmps3
  go_wp2_with fail
  refine (HNEW.out _).mono ?_
  rintro e w1 ⟨b, g, cap1, rfl, T1, hb, hg, B1⟩
  go_wp2_with fail
  refine (HRN.out _).mono ?_
  rintro e w2 ⟨g1, cap2, rfl, R2, hg1, B2⟩
  have P0 := Lib.hid (pst_start (by omega) T1 hb hg B1 R2 hg1 B2)
  generalize tp b = vt at *
  generalize rv g1 (List.replicate m zr) cap2 = vr at *
  clear T1 R2 hb hg hg1 B1 B2 hm
  go_wp2_with fail
  go_loopw [7, 26] (fun v i wr => ∃ k : Nat, k ≤ ops.length ∧ i = .int .i64 k ∧ Hid (PSt w wr m vt v)) (fun _ i _ => ops.length - (intOf i).toNat)
  case atStart => exact ⟨0, Nat.zero_le _, rfl, P0.out⟩
  case round =>
    obtain ⟨k, hk, rfl, hp⟩ := hrel
    obtain ⟨b, g, cap1, g1, cap2, L, rfl, rfl, HP, hL, hb, hg, hg1, hbw⟩ := hp.out
    have k0 : (0 : Int) ≤ k := by omega
    by_cases hlt : k < ops.length
    · obtain ⟨bl, off, rfl, hbl, c4⟩ := H4.out (by omega)
      have k1 : (k : Int) < ops.length := by omega
      have hgo := HG.out _ (List.getElem_mem hlt)
      have hcs := op_cells c4 k hlt
      rw [← (bcell hbw).1 _ _ hbl, ← (bcell hbw).1 _ _ hbl, ← (bcell hbw).1 _ _ hbl, ← (bcell hbw).1 _ _ hbl, ← (bcell hbw).1 _ _ hbl, ← (bcell hbw).1 _ _ hbl, ← (bcell hbw).1 _ _ hbl, ← (bcell hbw).1 _ _ hbl] at hcs
      generalize ops[k] = o at *
      obtain ⟨d0, d1, d2, d3, d4, d5, d6, d7⟩ := hcs
      have HGO := Lib.hid hgo
      have HL := Lib.hid hL
      have hBx := b_alloc hbw (boxO o)
      have HPX := Lib.hid (pair_below HP (b_alloc (Below.refl wr.heap.size wr) (boxO o)))
      clear c4 HP hL hgo hp
      by_cases hk40 : k < 40
      · have k2 : (k : Int) < 40 := by omega
        have hst := step_any HPX.out o HGO.out
        unfold aggO at hst
        have HST := Lib.hid hst
        unfold boxO at *
        clear hst
        unfold tp rv at *
        go_wp2_with fail
        refine HST.out.mono ?_
        rintro e w3 hret
        obtain ⟨v, rfl, P3⟩ := pst_step (w := w) (m := m) (wr := wr) hBx hb hg hg1 HL.out hret
        have HP3 := Lib.hid P3
        clear hret P3
        unfold tp at *
        go_wp2_with fail
        go_roundw
        case rel => exact ⟨k + 1, by omega, by go_num, HP3.out⟩
        case measure => simp only [intOf]; omega
      · have k2 : (40 : Int) ≤ k := by omega
        have P3 : PSt w (wr.alloc (boxO o)) m (tp b) (rv g1 L cap2) := ⟨b, g, cap1, g1, cap2, L, rfl, rfl, HPX.out, HL.out, hb, hg, hg1, hBx⟩
        have HP3 := Lib.hid P3
        clear P3
        unfold boxO at *
        unfold tp rv at *
        go_wp2_with fail
        go_roundw
        case rel => exact ⟨k + 1, by omega, by go_num, HP3.out⟩
        case measure => simp only [intOf]; omega
    · have HT := Lib.hid HP.t
      have HW := Lib.hid HP.wf
      subst hL
      have HCN := Lib.hid (tcount_any HP.t 0 L.length 0)
      have hsle := sum_le HP.wf (k := 0) (by omega)
      have C0 : (countI L 0 L.length 0 : Int) ≤ L.length := by omega
      have HHD : Hid (∀ w', Below wr.heap.size wr w' → ∀ a : Int, a ≤ 9223372036854775807 → Calls Try.prog 11 #[tp b, .int .i64 a] w' fun e w2 => e = .returned (.tuple #[.int .i64 (atR (headI L a)), .bool (okR (headI L a))]) ∧ Below w'.heap.size w' w2) := Lib.hid (fun w' hb a ha => thead_any (tab_below HT.out hb) a ha)
      have HRW : Hid (∀ w', Below wr.heap.size wr w' → ∀ a : Int, Calls Try.prog 12 #[tp b, .int .i64 a] w' fun e w2 => e = .returned (agg4 (rowI L a)) ∧ Below w'.heap.size w' w2) := Lib.hid (fun w' hb a => trow_any (tab_below HT.out hb) a)
      have HLN : Hid (∀ w', Below wr.heap.size wr w' → Calls Try.prog 13 #[tp b] w' fun e w2 => e = .returned (.int .i64 L.length) ∧ w' = w2) := Lib.hid (fun w' hb => tlen_any (tab_below HT.out hb))
      have HSA := Lib.hid (sum_all HP.wf)
      have HSL : Hid (∀ k, k ≤ L.length → countI L 0 L.length 0 + sumN L k ≤ L.length) := Lib.hid (fun k hk => sum_le HW.out hk)
      clear HP hp HM hsle
      obtain ⟨C, hC⟩ : ∃ C, C = countI L 0 L.length 0 := ⟨_, rfl⟩
      rw [← hC] at HCN C0 HSA HSL
      clear hC
      obtain ⟨W1, hW1⟩ : ∃ W1, W1 = wr := ⟨_, rfl⟩
      subst hW1
      unfold tp rv at *
      go_wp2_with fail
      refine HCN.out.mono ?_
      rintro e w3 ⟨rfl, rfl⟩
      go_wp2_with fail
      go_loopw [12, 13] (fun s i w2 => ∃ j S : Nat, j ≤ L.length ∧ i = .int .i64 j ∧ s = .int .i64 S ∧ Hid (S = C + sumN L j) ∧ Below W1.heap.size W1 w2) (fun _ i _ => L.length - (intOf i).toNat)
      case atStart => exact ⟨0, C, Nat.zero_le _, rfl, rfl, rfl, Below.refl _ _⟩
      case round =>
        obtain ⟨j, S, hj, rfl, rfl, hS, hb2⟩ := hrel
        have j0 : (0 : Int) ≤ j := by omega
        by_cases hjl : j < L.length
        · have j1 : (j : Int) < L.length := by omega
          have hs1 := HSL.out j (by omega)
          have hs2 := HSL.out (j + 1) (by omega)
          have HSS : Hid (sumN L (j + 1) = sumN L j + if isF (at4 L j).k = true then (at4 L j).n.toNat else 0) := rfl
          have s1 : (S : Int) ≤ 256 := by rw [hS.out]; omega
          have s0 : (0 : Int) ≤ (S : Int) := by omega
          have hro := rowI_at L j
          have hhd := HHD.out _ hb2 j (by omega)
          have hrw : ∀ w', Below W1.heap.size W1 w' → Calls Try.prog 12 #[.pointer (some ⟨b, 0, none⟩), .int .i64 j] w' fun e w2 => e = .returned (agg4 (at4 L j)) ∧ Below w'.heap.size w' w2 := fun w' hb => by rw [← hro]; exact HRW.out w' hb j
          have HRJ := Lib.hid hrw
          have HS1 := Lib.hid hs1; have HS2 := Lib.hid hs2
          clear hro hrw hs1 hs2
          rcases HW.out j hjl with c | ⟨c1, c2, c3, c4⟩ | ⟨c1, h9, c2, c3, c4⟩
          · have hE : headI L (j : Int) = -1 := by
              rcases head_is HW.out (j : Int) with ⟨e, _⟩ | ⟨p, e, q⟩
              · exact e
              · exfalso
                obtain ⟨_, q2, q3, q4⟩ := q
                have e2 : (L.getD p zr).n = (at4 L p).n := rfl
                rcases Nat.lt_or_ge p j with y | y
                · have := (wf_first HW.out q2).2.2.2 j y (by omega)
                  rw [c] at this; cases this
                · have : p = j := by omega
                  subst this
                  rw [show L.getD p zr = zr from c] at q2; cases q2
            rw [hE, show atR (-1) = 0 from rfl, show okR (-1) = false from rfl] at hhd
            have HHJ := Lib.hid hhd
            have HSE : Hid (sumN L (j + 1) = sumN L j) := by rw [HSS.out, c]; exact Nat.add_zero _
            rw [c] at HRJ
            clear hhd hE c
            go_wp2_with fail
            refine HHJ.out.mono ?_
            rintro e w4 ⟨rfl, hb4⟩
            have hB4 := b_call hb2 hb4
            go_wp2_with fail
            refine (HRJ.out _ hB4).mono ?_
            rintro e w5 ⟨rfl, hb5⟩
            have hB5 := b_call hB4 hb5
            unfold agg4 zr
            go_wp2_with fail
            go_roundw
            case rel => exact ⟨j + 1, S, by omega, by go_num, rfl, by show S = _; rw [HSE.out]; exact hS.out, b_alloc hB5 _⟩
            case measure => simp only [intOf]; omega
          · have hE : headI L (j : Int) = j := head_eq HW.out (Or.inr ⟨j, rfl, hjl, c1, by omega, by have e2 : (L.getD j zr).n = (at4 L j).n := rfl; omega⟩)
            rw [hE, show atR (j : Int) = j by unfold atR; rw [if_pos j0], show okR (j : Int) = true by unfold okR; exact decide_eq_true j0] at hhd
            have HHJ := Lib.hid hhd
            have HSE : Hid ((S : Int) + (at4 L j).n = ((C + sumN L (j + 1) : Nat) : Int)) := by show _ = _; rw [HSS.out, if_pos c1, hS.out]; omega
            have hk0 := isF_kind c1
            have t0 : ((at4 L j).k == 0) = false := by rw [beq_eq_false_iff_ne]; exact hk0.2
            have t3 : ((at4 L j).k == 3) = false := by rw [beq_eq_false_iff_ne]; exact hk0.1
            have tn : ¬ (at4 L j).k = 0 := hk0.2
            have sb : (S : Int) + (at4 L j).n ≤ 256 := by rw [HSE.out]; have := HS2.out; omega
            clear hhd hE c4 hk0 HSS
            generalize at4 L j = r at *
            go_wp2_with fail
            refine HHJ.out.mono ?_
            rintro e w4 ⟨rfl, hb4⟩
            have hB4 := b_call hb2 hb4
            go_wp2_with fail
            refine (HRJ.out _ hB4).mono ?_
            rintro e w5 ⟨rfl, hb5⟩
            have hB5 := b_call hB4 hb5
            have BX5 := blk_new w5 #[.int .i64 r.k, .int .i64 r.c, .int .i64 r.o, .int .i64 r.n] 36
            have HBX := Lib.hid BX5; clear BX5
            have hB6 := b_alloc hB5 (.cells #[.int .i64 r.k, .int .i64 r.c, .int .i64 r.o, .int .i64 r.n] 36)
            unfold agg4
            go_wp2_with fail
            refine (HRJ.out _ hB6).mono ?_
            rintro e w7 ⟨rfl, hb7⟩
            have hB7 := b_call hB6 hb7
            obtain ⟨x0, x1, x2, x3, xf⟩ := blk4 (blk_below HBX.out hb7)
            unfold agg4
            go_wp2_with fail
            go_roundw
            case rel => exact ⟨j + 1, C + sumN L (j + 1), by omega, by go_num, by rw [HSE.out], rfl, hB7⟩
            case measure => simp only [intOf]; omega
          · have hE : headI L (j : Int) = h9 := head_eq HW.out (Or.inr ⟨h9, rfl, by omega, c3, by omega, by have e2 : (L.getD h9 zr).n = (at4 L h9).n := rfl; omega⟩)
            have h90 : (0 : Int) ≤ h9 := by omega
            rw [hE, show atR (h9 : Int) = h9 by unfold atR; rw [if_pos h90], show okR (h9 : Int) = true by unfold okR; exact decide_eq_true h90] at hhd
            have HHJ := Lib.hid hhd
            have HSE : Hid (sumN L (j + 1) = sumN L j) := by rw [HSS.out, c1]; exact Nat.add_zero _
            have hrw2 : ∀ w', Below W1.heap.size W1 w' → Calls Try.prog 12 #[.pointer (some ⟨b, 0, none⟩), .int .i64 h9] w' fun e w2 => e = .returned (agg4 (at4 L h9)) ∧ Below w'.heap.size w' w2 := fun w' hb => by rw [← rowI_at]; exact HRW.out w' hb h9
            have HRH := Lib.hid hrw2
            rw [c1] at HRJ
            have hlt9 : (h9 : Int) < j := by omega
            have hnj : ¬ (at4 L h9).n ≤ (j : Int) - h9 := by omega
            have hne9 : ((h9 : Int) == (j : Int)) = false := by rw [beq_eq_false_iff_ne]; omega
            clear hhd hE c1 c3 c4 hrw2 HSS
            generalize at4 L h9 = r at *
            go_wp2_with fail
            refine HHJ.out.mono ?_
            rintro e w4 ⟨rfl, hb4⟩
            have hB4 := b_call hb2 hb4
            go_wp2_with fail
            refine (HRJ.out _ hB4).mono ?_
            rintro e w5 ⟨rfl, hb5⟩
            have hB5 := b_call hB4 hb5
            have BX5 := blk_new w5 #[.int .i64 3, .int .i64 0, .int .i64 0, .int .i64 0] 36
            have HBX := Lib.hid BX5; clear BX5
            have hB6 := b_alloc hB5 (.cells #[.int .i64 3, .int .i64 0, .int .i64 0, .int .i64 0] 36)
            unfold agg4 tl
            go_wp2_with fail
            refine (HRH.out _ hB6).mono ?_
            rintro e w7 ⟨rfl, hb7⟩
            have hB7 := b_call hB6 hb7
            obtain ⟨x0, x1, x2, x3, xf⟩ := blk4 (blk_below HBX.out hb7)
            unfold agg4
            go_wp2_with fail
            go_roundw
            case rel => exact ⟨j + 1, S, by omega, by go_num, rfl, by show S = _; rw [HSE.out]; exact hS.out, hB7⟩
            case measure => simp only [intOf]; omega
        · obtain rfl : j = L.length := by omega
          have hSl : S = L.length := by rw [hS.out, HSA.out]
          subst hSl
          clear hS
          go_wp2_with fail
          refine (HLN.out _ hb2).mono ?_
          rintro e w4 ⟨rfl, rfl⟩
          go_wp2_with fail
          refine (awake4_any _).mono ?_
          rintro e w5 ⟨rfl, hb5⟩
          go_wp2_with fail
          go_ret
          exact ⟨rfl, b_call (b_call hbw hb2) hb5⟩
end Go.Proofs.Ytfbdnjmljdfjjaa
