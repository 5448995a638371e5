/- PagesCounts, walked: whatever calls, the answer is true. Conditions: the calls read as a list; their places are ints. -/
import Derived.Test.YtfbdnjmljdfjjaaPagePlays
namespace Go.Proofs.Ytfbdnjmljdfjjaa
open Go.RowKit
set_option linter.unusedVariables false
set_option linter.unusedSimpArgs false
attribute [local go_sem] over_cell over_frozen field_k field_n
set_option maxRecDepth 100000 in
set_option maxHeartbeats 2000000 in
theorem pagesCounts_any (n0 : Int) (h0 : 0 ≤ n0) (h1 : n0 < 256) (u : Value) (ops : List OpP) (lo hi kind : Int) (w : World) (h : ReadR opE w u ops) (hg : ∀ o ∈ ops, GoodO o) :
    Calls Try.prog 5 #[.int .u8 n0, u, .int .i64 lo, .int .i64 hi, .int .i64 kind] w fun e w' => e = .returned (.bool true) ∧ Below w.heap.size w w' := by
  obtain ⟨m, hm⟩ : ∃ m : Nat, n0 % 30 = m := ⟨(n0 % 30).toNat, by omega⟩
  have hm30 : m < 30 := by omega
  have HNEW := Lib.hid (tnew_any (m : Int))
  have HRN := Lib.hid (rnew_any (m : Int))
  have hsz : sizeP (m : Int) = m := by unfold sizeP; rw [if_neg (by omega), if_neg (by omega)]; omega
  rw [hsz] at HNEW HRN
  have HM := Lib.hid hm
  obtain ⟨a, cap, rfl, c1, c2, c3, c4⟩ := h
  have hcm := cap_le c2
  have H4 := Lib.hid c4
  have HG := Lib.hid hg
  have hlm : (ops.length : Int) ≤ 9223372036854775807 := by omega
  clear hsz c4 hg c3
  go_enter Try.func5, Try.ntmps5
  go_wp2_with fail
  refine (HNEW.out _).mono ?_
  rintro e w1 ⟨b, g, cap1, rfl, T1, hb, hg, B1⟩
  go_wp2_with fail
  refine (HRN.out _).mono ?_
  rintro e w2 ⟨g1, cap2, rfl, R2, hg1, B2⟩
  have P0 := Lib.hid (pst_start (by omega) T1 hb hg B1 R2 hg1 B2)
  generalize tp b = vt at *
  generalize rv g1 (List.replicate m zr) cap2 = vr at *
  clear T1 R2 hb hg hg1 B1 B2 hm
  go_wp2_with fail
  go_loopw [13, 32] (fun v i wr => ∃ k : Nat, k ≤ ops.length ∧ i = .int .i64 k ∧ Hid (PSt w wr m vt v)) (fun _ i _ => ops.length - (intOf i).toNat)
  case atStart => exact ⟨0, Nat.zero_le _, rfl, P0.out⟩
  case round =>
    obtain ⟨k, hk, rfl, hp⟩ := hrel
    obtain ⟨b, g, cap1, g1, cap2, L, rfl, rfl, HP, hL, hb, hg, hg1, hbw⟩ := hp.out
    have k0 : (0 : Int) ≤ k := by omega
    by_cases hlt : k < ops.length
    · obtain ⟨bl, off, rfl, hbl, c4⟩ := H4.out (by omega)
      have k1 : (k : Int) < ops.length := by omega
      have hgo := HG.out _ (List.getElem_mem hlt)
      have hcs := op_cells c4 k hlt
      rw [← (bcell hbw).1 _ _ hbl, ← (bcell hbw).1 _ _ hbl, ← (bcell hbw).1 _ _ hbl, ← (bcell hbw).1 _ _ hbl, ← (bcell hbw).1 _ _ hbl, ← (bcell hbw).1 _ _ hbl, ← (bcell hbw).1 _ _ hbl, ← (bcell hbw).1 _ _ hbl] at hcs
      generalize ops[k] = o at *
      obtain ⟨d0, d1, d2, d3, d4, d5, d6, d7⟩ := hcs
      have HGO := Lib.hid hgo
      have HL := Lib.hid hL
      have hBx := b_alloc hbw (boxO o)
      have HPX := Lib.hid (pair_below HP (b_alloc (Below.refl wr.heap.size wr) (boxO o)))
      clear c4 HP hL hgo hp
      by_cases hk20 : k < 20
      · have k2 : (k : Int) < 20 := by omega
        have hst := step_any HPX.out o HGO.out
        unfold aggO at hst
        have HST := Lib.hid hst
        unfold boxO at *
        clear hst
        unfold tp rv at *
        go_wp2_with fail
        refine HST.out.mono ?_
        rintro e w3 hret
        obtain ⟨v, rfl, P3⟩ := pst_step (w := w) (m := m) (wr := wr) hBx hb hg hg1 HL.out hret
        have HP3 := Lib.hid P3
        clear hret P3
        unfold tp at *
        go_wp2_with fail
        go_roundw
        case rel => exact ⟨k + 1, by omega, by go_num, HP3.out⟩
        case measure => simp only [intOf]; omega
      · have k2 : (20 : Int) ≤ k := by omega
        have P3 : PSt w (wr.alloc (boxO o)) m (tp b) (rv g1 L cap2) := ⟨b, g, cap1, g1, cap2, L, rfl, rfl, HPX.out, HL.out, hb, hg, hg1, hBx⟩
        have HP3 := Lib.hid P3
        clear P3
        unfold boxO at *
        unfold tp rv at *
        go_wp2_with fail
        go_roundw
        case rel => exact ⟨k + 1, by omega, by go_num, HP3.out⟩
        case measure => simp only [intOf]; omega
    · have HPH := Lib.hid HP
      subst hL
      have hmx : L.length ≤ 29 := by omega
      clear HP hp HM
      obtain ⟨W1, hW1⟩ : ∃ W1, W1 = wr := ⟨_, rfl⟩
      subst hW1
      have HRL := Lib.hid (rlong_any HPH.out.r lo hi)
      have HTC := Lib.hid (tcount_any HPH.out.t lo hi kind)
      have HRC := Lib.hid (rcount_any HPH.out.r lo hi kind)
      have HTL : Hid (∀ w', Below W1.heap.size W1 w' → Calls Try.prog 20 #[tp b, .int .i64 lo, .int .i64 hi] w' (LongRet L lo hi w')) := Lib.hid (fun w' hb => tlong_any (tab_below HPH.out.t hb) lo hi)
      have HCP : Hid (∀ w', Below W1.heap.size W1 w' → Calls Try.prog 15 #[tp b] w' (NewTab w' L)) := Lib.hid (fun w' hb => tcopy_any (tab_below HPH.out.t hb))
      unfold tp rv at *
      go_wp2_with fail
      refine HRL.out.mono ?_
      rintro e w3 ⟨mo, hmo, rfl, rfl⟩
      have hmol := long_le hmo
      have mo1 : (mo : Int) ≤ 29 := by omega
      have HMO := Lib.hid hmo
      clear hmo
      go_wp2_with fail
      refine HTC.out.mono ?_
      rintro e w3 ⟨rfl, rfl⟩
      go_wp2_with fail
      refine HRC.out.mono ?_
      rintro e w3 ⟨rfl, hb3⟩
      go_wp2_with fail
      refine (HTL.out _ hb3).mono ?_
      rintro e w4 ⟨mo', hmo', rfl, hb4⟩
      obtain rfl : mo' = mo := long_eq hmo' HMO.out
      have hB4 := b_call hb3 hb4
      clear hmo'
      go_wp2_with fail
      refine (HCP.out _ hB4).mono ?_
      rintro e w5 ⟨b5, g5, cap5, rfl, T5, _, _, hb5⟩
      have hB5 := b_call hB4 hb5
      have hfull := tmap_full T5 lo hi ⟨1, 0, 0, (mo' : Int) + 1⟩ (by rw [mayR_iff]; exact ⟨rfl, by show (1 : Int) ≤ (mo' : Int) + 1; omega, by show (mo' : Int) + 1 ≤ 256; omega⟩) (Or.inl ⟨rfl, fun j hj => HMO.out.2 j (by rw [show ((mo' : Int) + 1).toNat = mo' + 1 by omega] at hj; exact hj)⟩)
      unfold agg4 at hfull
      have HFULL := Lib.hid hfull
      clear hfull T5
      unfold tp at *
      go_wp2_with fail
      refine HFULL.out.mono ?_
      rintro e w6 ⟨rfl, hb6⟩
      have hB6 := b_call hB5 hb6
      rcases Nat.eq_zero_or_pos mo' with rfl | hpos
      · have hbad := fun w => tmap_bad (w := w) b lo hi ⟨2, 0, 0, 0⟩ (by rfl)
        unfold agg4 tp at hbad
        have HBAD := Lib.hid hbad
        clear hbad
        go_wp2_with fail
        refine (HBAD.out _).mono ?_
        rintro e w7 ⟨rfl, hb7⟩
        have hB7 := b_call hB6 hb7
        go_wp2_with fail
        refine (awake4_any _).mono ?_
        rintro e w8 ⟨rfl, hb8⟩
        go_wp2_with fail
        go_ret
        exact ⟨rfl, b_call (b_call hbw hB7) hb8⟩
      · have hne : ((mo' : Int) == 0) = false := by rw [beq_eq_false_iff_ne]; omega
        have hmr : mayR ⟨2, 0, 0, (mo' : Int)⟩ = true := by rw [mayR_iff]; exact ⟨rfl, by show (1 : Int) ≤ (mo' : Int); omega, by show (mo' : Int) ≤ 256; omega⟩
        have hpl : ∃ p : Nat, IsPlace L lo hi mo' (p : Int) ∧ Fits L lo hi mo' p := by
          rcases placeI_is L lo hi mo' with ⟨_, q⟩ | ⟨p, e, q1, q2⟩
          · rcases HMO.out.1 with z | ⟨k, z⟩
            · omega
            · exact absurd z (q k)
          · exact ⟨p, Or.inr ⟨p, rfl, q1, q2⟩, q1⟩
        obtain ⟨p, hp1, hp2⟩ := hpl
        have hok := tmap_ok (tab_below HPH.out.t hB6) lo hi ⟨2, 0, 0, (mo' : Int)⟩ p hmr (by rw [show ((⟨2, 0, 0, (mo' : Int)⟩ : Row4).n.toNat) = mo' by simp]; exact hp1)
        have hfit : Fits L lo hi (⟨2, 0, 0, (mo' : Int)⟩ : Row4).n.toNat p := by rw [show ((⟨2, 0, 0, (mo' : Int)⟩ : Row4).n.toNat) = mo' by simp]; exact hp2
        have hback : cleared (laid L p ⟨2, 0, 0, (mo' : Int)⟩) p mo' = L := by
          have q := back hmr hfit
          rw [show ((⟨2, 0, 0, (mo' : Int)⟩ : Row4).n.toNat) = mo' by simp] at q
          exact q
        have hpm : (p : Int) + mo' ≤ L.length := by have := hp2.1; omega
        have hll : (laid L p ⟨2, 0, 0, (mo' : Int)⟩).length = L.length := laid_length (by show (1 : Int) ≤ (mo' : Int); omega) hpm
        have hat : rowI (laid L p ⟨2, 0, 0, (mo' : Int)⟩) (p : Int) = ⟨2, 0, 0, (mo' : Int)⟩ := by
          rw [rowI_at, at4_laid (by show (1 : Int) ≤ (mo' : Int); omega) hpm, if_pos ⟨Nat.le_refl _, by show (p : Int) < p + (mo' : Int); omega⟩, if_pos rfl]
        unfold agg4 tp at hok
        have HOK := Lib.hid hok; have HBK := Lib.hid hback; have HLL := Lib.hid hll; have HAT := Lib.hid hat; have HPM := Lib.hid hpm
        clear hok hback hll hat hp1 hp2 hfit hpm hmr
        go_wp2_with fail
        refine HOK.out.mono ?_
        rintro e w7 ⟨rfl, T7, G7⟩
        have hun := tunmap_ok T7 p ⟨2, 0, 0, (mo' : Int)⟩ HAT.out (by rw [HLL.out]; have := HPM.out; omega) (by rfl) (by show (1 : Int) ≤ (mo' : Int); omega) (by rw [HLL.out]; exact HPM.out)
        rw [show ((⟨2, 0, 0, (mo' : Int)⟩ : Row4).n.toNat) = mo' by simp, HBK.out] at hun
        have HUN := Lib.hid hun
        have hB7 : Below w.heap.size w w7 := b_gb (b_call hbw hB6) G7 hg
        have R7 := rl_grown (rl_below HPH.out.r hB6) G7 (fun e => HPH.out.n1 (by injection e))
        clear hun T7 G7
        unfold tp at *
        go_wp2_with fail
        refine HUN.out.mono ?_
        rintro e w8 ⟨rfl, T8, G8⟩
        have hB8 : Below w.heap.size w w8 := b_gb hB7 G8 hg
        have R8 := rl_grown R7 G8 (fun e => HPH.out.n1 (by injection e))
        have HSM := Lib.hid (same4_any T8 R8)
        clear T8 R8 R7 G8
        unfold tp rv at *
        go_wp2_with fail
        refine HSM.out.mono ?_
        rintro e w9 ⟨rfl, hb9⟩
        go_wp2_with fail
        refine (awake4_any _).mono ?_
        rintro e w10 ⟨rfl, hb10⟩
        go_wp2_with fail
        go_ret
        exact ⟨rfl, b_call (b_call hB8 hb9) hb10⟩
end Go.Proofs.Ytfbdnjmljdfjjaa
