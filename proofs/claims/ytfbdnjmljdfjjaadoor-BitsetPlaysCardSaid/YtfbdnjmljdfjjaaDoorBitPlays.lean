/- BitsetPlays' walk: for every number of bits and all calls the law returns true; old memory stands. Conditions: the library's table as it is laid. -/
import Derived.Test.YtfbdnjmljdfjjaaDoorBitGoes
import Derived.Test.YtfbdnjmljdfjjaaDoorBitO
import Derived.Deep.DeepCutAuto
import Derived.Deep.CutRange
namespace Go.Proofs.YtfbdnjmljdfjjaaDoor
open Go.RowKit
set_option linter.unusedVariables false
set_option linter.unusedSimpArgs false
attribute [local go_sem] over_cell over_frozen
theorem wp_namedB {P : Program} {c : Code} {Q : Exit → Act → World → Prop} {a : Act} {w : World} (h : ∀ w1, w1 = w → Code.wp P c Q a w1) : Code.wp P c Q a w := h _ rfl
/-- What stands between two calls. -/
structure PlB (w wr : World) (s g gw N : Nat) (L : List Bool) : Prop where
  bit : ∃ cap W, BitAt wr s g cap W L
  row : Blk wr gw (booE.row L)
  len : L.length = N
  ns : gw ≠ s
  ng : gw ≠ g
  og : w.heap.size ≤ g
  ow : w.heap.size ≤ gw
  be : Below w.heap.size w wr
theorem plB_below {w wr w' : World} {s g gw N : Nat} {L : List Bool} (h : PlB w wr s g gw N L) (hb : Below wr.heap.size wr w') : PlB w w' s g gw N L := by
  obtain ⟨⟨cap, W, h1⟩, h2, h3, h4, h5, h6, h7, h8⟩ := h
  exact ⟨⟨cap, W, bit_below h1 hb⟩, blk_below h2 hb, h3, h4, h5, h6, h7, b_call h8 hb⟩
theorem putL_len (l : List Bool) (i : Int) (v : Bool) : (putL l i v).length = l.length := by unfold putL; split <;> simp
set_option maxRecDepth 100000 in
set_option maxHeartbeats 4000000 in
theorem bitsetPlays_any (n : Int) (a : Option Addr) (nl cl : Nat) (ops : List OpB) {w : World} (hT : TabZ w) (hr : ReadR opBE w (.slice a nl cl) ops) (hgd : ∀ o ∈ ops, -9223372036854775808 ≤ o.i ∧ o.i ≤ 9223372036854775807) : Calls Tryd.prog 5 #[.int .i64 n, .slice a nl cl] w fun e w' => e = .returned (.bool true) ∧ Below w.heap.size w w' := by
  have HT := Lib.hid hT
  have HR := Lib.hid hr
  have HGD := Lib.hid hgd
  obtain ⟨a0, c0, e0, hl1, hl2⟩ := readR_len hr
  cases e0
  have hcap := cap_le hl2
  obtain ⟨z, hz⟩ : ∃ z, n.tmod 400 = z := ⟨_, rfl⟩
  have hz2 : z < 400 := by rw [← hz]; exact Int.tmod_lt_of_pos n (by decide)
  have hN : bitN z ≤ 399 := by unfold bitN; split; (omega); (split <;> omega)
  have hL0 : (List.replicate (bitN z) false).length = bitN z := by simp
  clear hT hr hgd hl2
  have N1 := Lib.hid (fun w => bnew_any z w)
  have N2 := Lib.hid (fun w => rnew2_any z w)
  generalize List.replicate (bitN z) false = L0 at *
  generalize bitN z = N at *
  subst hL0
  go_enter Tryd.func5, Tryd.ntmps5
  go_wp2_with fail
  refine (N1.out _).mono ?_
  rintro e w1 ⟨s, g, cap, W, rfl, x1, x2, x3, hb1⟩
  unfold sp
  go_wp2_with fail
  refine (N2.out _).mono ?_
  rintro e w2 ⟨gw, rfl, y1, y2, hb2⟩
  have q1 := x1.hd.1
  have q2 := x1.rw.1
  have q3 := hb1.size
  have HP : Hid (PlB w w2 s g gw L0.length L0) := ⟨⟨cap, W, bit_below x1 hb2⟩, y1, rfl, by omega, by omega, x3, by omega, b_call hb1 hb2⟩
  clear x1 x2 x3 y1 y2 q1 q2 q3 hb1 hb2 N1 N2
  go_wp2_with fail
  go_loopw [5, 22] (fun sv i wr => ∃ (k s g : Nat) (L : List Bool), k ≤ ops.length ∧ k ≤ 60 ∧ i = .int .i64 k ∧ sv = .pointer (some ⟨s, 0, none⟩) ∧ Hid (PlB w wr s g gw L0.length L)) (fun _ i _ => 60 - (intOf i).toNat)
  case atStart => exact ⟨0, s, g, L0, Nat.zero_le _, by omega, rfl, rfl, HP.out⟩
  case round =>
    obtain ⟨k, s, g, L, hk, hk6, rfl, rfl, hp⟩ := hrel
    have hbw := hp.out.be
    by_cases hlt : k < ops.length
    · obtain ⟨b, o, cp, e, _, _, hlb, hcell⟩ := readR_pos HR.out (by omega)
      cases e
      have d0 := hcell k hlt 0 (by decide)
      have d1 := hcell k hlt 1 (by decide)
      have d2 := hcell k hlt 2 (by decide)
      rw [← (bcell hbw).1 _ _ hlb] at d0 d1 d2
      have k0 : (0 : Int) ≤ k := by omega
      have k1 : (k : Int) < ops.length := by omega
      have k2 : k < cl := by omega
      have GD := Lib.hid (HGD.out ops[k] (List.getElem_mem hlt))
      generalize ops[k] = op at *
      obtain ⟨ok, oi, ov⟩ := op
      have d0' : wr.cell? ⟨b, o + k * 3, none⟩ = some (.int .i64 ok) := d0
      have d1' : wr.cell? ⟨b, o + k * 3 + 1, none⟩ = some (.int .i64 oi) := d1
      have d2' : wr.cell? ⟨b, o + k * 3 + 2, none⟩ = some (.bool ov) := d2
      clear hcell d0 d1 d2
      go_upto_region 6 with fail
      refine wp_namedB ?_
      intro wf hwf
      have BF : Blk wf wr.heap.size [.int .i64 ok, .int .i64 oi, .bool ov] := by rw [hwf]; exact blk_new _ _ _
      have HBF := Lib.hid BF
      have PF : Hid (PlB w wf s g gw L0.length L) := by rw [hwf]; exact plB_below hp.out (b_alloc (Below.refl _ _) _)
      have hsz : Hid (s < wr.heap.size ∧ g < wr.heap.size ∧ gw < wr.heap.size) := by
        obtain ⟨cc, WW, hb⟩ := hp.out.bit
        exact ⟨hb.hd.1, hb.rw.1, hp.out.row.1⟩
      obtain ⟨f0, f1, f2, ff⟩ := blk3 BF
      clear BF hwf d0' d1' d2' hp hbw
      have HTF := Lib.hid (tabZ_below HT.out PF.out.be)
      obtain ⟨cc, WW, HB⟩ : ∃ cc WW, Hid (BitAt wf s g cc WW L) := PF.out.bit
      by_cases h60 : k < 60
      case neg =>
        have e : k = 60 := by omega
        have hLN := Lib.hid PF.out.len
        have k6 : ¬ ((k : Int) < 60) := by omega
        have k7 : (60 : Int) ≤ k := by omega
        clear e
        go_wp2_with fail
        refine (lsame_any HB.out HTF.out (v := .slice (some ⟨gw, 0, none⟩) L0.length L0.length) (by rw [← hLN.out]; exact readR_blk (c := booE) PF.out.row (Nat.le_refl _) (by unfold maxLen; have := hLN.out; omega))).mono ?_
        rintro e w3 ⟨rfl, hb3⟩
        have HB3 := b_call PF.out.be hb3
        go_wp2_with fail
        refine (awake02 (tabZ_below HT.out HB3)).mono ?_
        rintro e w5 ⟨rfl, hb5⟩
        go_wp2_with fail
        go_ret
        exact ⟨rfl, b_call HB3 hb5⟩
      case pos =>
        have k6 : (k : Int) < 60 := by omega
        have hLN := Lib.hid PF.out.len
        --ARMS
        have hpos : oi < 0 ∨ (0 ≤ oi ∧ (L0.length : Int) ≤ oi) ∨ ∃ j : Nat, j < L0.length ∧ oi = j := by
          rcases (show oi < 0 ∨ (0 ≤ oi ∧ (L0.length : Int) ≤ oi) ∨ (0 ≤ oi ∧ oi < L0.length) by omega) with q | q | q
          · exact Or.inl q
          · exact Or.inr (Or.inl q)
          · exact Or.inr (Or.inr ⟨oi.toNat, by omega, by omega⟩)
        have hkd : ok = 0 ∨ ok = 1 ∨ ok = 2 ∨ ok = 3 ∨ ok = 4 ∨ ok = 5 ∨ (¬ (ok = 0) ∧ ¬ (ok = 1) ∧ ¬ (ok = 2) ∧ ¬ (ok = 3) ∧ ¬ (ok = 4) ∧ ¬ (ok = 5)) := by omega
        rcases hpos with q | ⟨q, qn⟩ | ⟨j, hj, rfl⟩
        · skip
          rcases hkd with rfl | rfl | rfl | rfl | rfl | rfl | ⟨n0, n1, n2, n3, n4, n5⟩
          · as_aux_lemma =>
            have BP := Lib.hid (bput_out HB.out oi ov (by have := hLN.out; omega))
            unfold sp at BP
            go_wp2_with fail
            refine BP.out.mono ?_
            rintro e w3 ⟨rfl, rfl⟩
            go_wp2_with fail
            go_roundw
            case rel => exact ⟨k + 1, s, g, L, by omega, by omega, by go_num, rfl, PF.out⟩
            case measure => simp only [intOf]; omega
          · as_aux_lemma =>
            have BP := Lib.hid (bput_out HB.out oi ov (by have := hLN.out; omega))
            unfold sp at BP
            go_wp2_with fail
            refine BP.out.mono ?_
            rintro e w3 ⟨rfl, rfl⟩
            go_wp2_with fail
            go_roundw
            case rel => exact ⟨k + 1, s, g, L, by omega, by omega, by go_num, rfl, PF.out⟩
            case measure => simp only [intOf]; omega
          · as_aux_lemma =>
            have BP := Lib.hid (bput_out HB.out oi ov (by have := hLN.out; omega))
            unfold sp at BP
            go_wp2_with fail
            refine BP.out.mono ?_
            rintro e w3 ⟨rfl, rfl⟩
            go_wp2_with fail
            go_roundw
            case rel => exact ⟨k + 1, s, g, L, by omega, by omega, by go_num, rfl, PF.out⟩
            case measure => simp only [intOf]; omega
          · as_aux_lemma =>
            have BN := Lib.hid (bnext_any HB.out HTF.out oi ov)
            unfold NextE sp at BN
            have RN := Lib.hid (fun w' (hb : Below wf.heap.size wf w') => rnext2_any (l := L) (u := .slice (some ⟨gw, 0, none⟩) L0.length L0.length) (by rw [← hLN.out]; exact readR_blk (c := booE) (blk_below PF.out.row hb) (Nat.le_refl _) (by unfold maxLen; have := hLN.out; omega)) (by have := hLN.out; omega) oi ov)
            cases hn : nextO L ov (oi).toNat with
            | none =>
              rw [hn] at BN
              simp only [hn] at RN
              have HN := Lib.hid hn
              clear hn
              go_wp2_with fail
              refine BN.out.mono ?_
              rintro e w3 ⟨rfl, hb3⟩
              obtain ⟨f0, f1, f2, ff⟩ := blk3 (blk_below HBF.out hb3)
              go_wp2_with fail
              refine (RN.out w3 hb3).mono ?_
              rintro e w4 ⟨rfl, rfl⟩
              unfold elimO
              go_wp2_with fail
              go_roundw
              case rel => exact ⟨k + 1, s, g, L, by omega, by omega, by go_num, rfl, plB_below PF.out hb3⟩
              case measure => simp only [intOf]; omega
            | some i =>
              rw [hn] at BN
              simp only [hn] at RN
              have HN := Lib.hid hn
              have i0 : (0 : Int) ≤ i := by omega
              clear hn
              go_wp2_with fail
              refine BN.out.mono ?_
              rintro e w3 ⟨rfl, hb3⟩
              obtain ⟨f0, f1, f2, ff⟩ := blk3 (blk_below HBF.out hb3)
              go_wp2_with fail
              refine (RN.out w3 hb3).mono ?_
              rintro e w4 ⟨rfl, rfl⟩
              unfold elimO
              go_wp2_with fail
              go_roundw
              case rel => exact ⟨k + 1, s, g, L, by omega, by omega, by go_num, rfl, plB_below PF.out hb3⟩
              case measure => simp only [intOf]; omega
          · as_aux_lemma =>
            have HH : Hid (hasL L oi = false) := by show _ = _; unfold hasL; rw [decide_eq_false (by have := hLN.out; omega)]; rfl
            have BH := Lib.hid (bhas_any HB.out oi)
            rw [HH.out] at BH
            unfold sp at BH
            go_wp2_with fail
            refine BH.out.mono ?_
            rintro e w3 ⟨rfl, rfl⟩
            go_wp2_with fail
            go_roundw
            case rel => exact ⟨k + 1, s, g, L, by omega, by omega, by go_num, rfl, PF.out⟩
            case measure => simp only [intOf]; omega
          · as_aux_lemma =>
            have BC := Lib.hid (bcopy_any HB.out)
            unfold sp at BC
            go_wp2_with fail
            refine BC.out.mono ?_
            rintro e w3 ⟨s5, g5, c5, W5, rfl, hb5, hs5, hg5, hb3⟩
            have HB5 := Lib.hid hb5
            have HS5 := Lib.hid (And.intro hs5 hg5)
            clear hb5 hs5 hg5
            have BH := Lib.hid (bhas_any (bit_below HB.out hb3) 0)
            have BP := Lib.hid (bput_any (bit_below HB.out hb3) 0 (!(hasL L 0)))
            unfold sp at *
            go_wp2_with fail
            refine BH.out.mono ?_
            rintro e w4 ⟨rfl, rfl⟩
            go_wp2_with fail
            refine BP.out.mono ?_
            rintro e w4 ⟨W4, rfl, hb4, hg4⟩
            have DONE : Hid (PlB w w4 s5 g5 gw L0.length L) := by
              have h1 := hsz.out
              have h2 := HS5.out
              have h3 := HBF.out.1
              refine ⟨⟨_, _, bit_grown HB5.out hg4 (by intro e; injection e with e; omega) (by intro e; injection e with e; omega)⟩, blk_grown (blk_below PF.out.row hb3) hg4 (by intro e; injection e with e; exact PF.out.ng e), hLN.out, by omega, by omega, by have := PF.out.be.size; omega, PF.out.ow, b_grown (b_call PF.out.be hb3) hg4 PF.out.og⟩
            clear hb4 hg4
            go_wp2_with fail
            go_roundw
            case rel => exact ⟨k + 1, s5, g5, L, by omega, by omega, by go_num, rfl, DONE.out⟩
            case measure => simp only [intOf]; omega
          · as_aux_lemma =>
            go_wp2_with fail
            go_roundw
            case rel => exact ⟨k + 1, s, g, L, by omega, by omega, by go_num, rfl, PF.out⟩
            case measure => simp only [intOf]; omega
        · have qn2 : ¬ (oi < L0.length) := by omega
          rcases hkd with rfl | rfl | rfl | rfl | rfl | rfl | ⟨n0, n1, n2, n3, n4, n5⟩
          · as_aux_lemma =>
            have BP := Lib.hid (bput_out HB.out oi ov (by have := hLN.out; omega))
            unfold sp at BP
            go_wp2_with fail
            refine BP.out.mono ?_
            rintro e w3 ⟨rfl, rfl⟩
            go_wp2_with fail
            go_roundw
            case rel => exact ⟨k + 1, s, g, L, by omega, by omega, by go_num, rfl, PF.out⟩
            case measure => simp only [intOf]; omega
          · as_aux_lemma =>
            have BP := Lib.hid (bput_out HB.out oi ov (by have := hLN.out; omega))
            unfold sp at BP
            go_wp2_with fail
            refine BP.out.mono ?_
            rintro e w3 ⟨rfl, rfl⟩
            go_wp2_with fail
            go_roundw
            case rel => exact ⟨k + 1, s, g, L, by omega, by omega, by go_num, rfl, PF.out⟩
            case measure => simp only [intOf]; omega
          · as_aux_lemma =>
            have BP := Lib.hid (bput_out HB.out oi ov (by have := hLN.out; omega))
            unfold sp at BP
            go_wp2_with fail
            refine BP.out.mono ?_
            rintro e w3 ⟨rfl, rfl⟩
            go_wp2_with fail
            go_roundw
            case rel => exact ⟨k + 1, s, g, L, by omega, by omega, by go_num, rfl, PF.out⟩
            case measure => simp only [intOf]; omega
          · as_aux_lemma =>
            have BN := Lib.hid (bnext_any HB.out HTF.out oi ov)
            unfold NextE sp at BN
            have RN := Lib.hid (fun w' (hb : Below wf.heap.size wf w') => rnext2_any (l := L) (u := .slice (some ⟨gw, 0, none⟩) L0.length L0.length) (by rw [← hLN.out]; exact readR_blk (c := booE) (blk_below PF.out.row hb) (Nat.le_refl _) (by unfold maxLen; have := hLN.out; omega)) (by have := hLN.out; omega) oi ov)
            cases hn : nextO L ov (oi).toNat with
            | none =>
              rw [hn] at BN
              simp only [hn] at RN
              have HN := Lib.hid hn
              clear hn
              go_wp2_with fail
              refine BN.out.mono ?_
              rintro e w3 ⟨rfl, hb3⟩
              obtain ⟨f0, f1, f2, ff⟩ := blk3 (blk_below HBF.out hb3)
              go_wp2_with fail
              refine (RN.out w3 hb3).mono ?_
              rintro e w4 ⟨rfl, rfl⟩
              unfold elimO
              go_wp2_with fail
              go_roundw
              case rel => exact ⟨k + 1, s, g, L, by omega, by omega, by go_num, rfl, plB_below PF.out hb3⟩
              case measure => simp only [intOf]; omega
            | some i =>
              rw [hn] at BN
              simp only [hn] at RN
              have HN := Lib.hid hn
              have i0 : (0 : Int) ≤ i := by omega
              clear hn
              go_wp2_with fail
              refine BN.out.mono ?_
              rintro e w3 ⟨rfl, hb3⟩
              obtain ⟨f0, f1, f2, ff⟩ := blk3 (blk_below HBF.out hb3)
              go_wp2_with fail
              refine (RN.out w3 hb3).mono ?_
              rintro e w4 ⟨rfl, rfl⟩
              unfold elimO
              go_wp2_with fail
              go_roundw
              case rel => exact ⟨k + 1, s, g, L, by omega, by omega, by go_num, rfl, plB_below PF.out hb3⟩
              case measure => simp only [intOf]; omega
          · as_aux_lemma =>
            have HH : Hid (hasL L oi = false) := by show _ = _; unfold hasL; rw [decide_eq_false (by have := hLN.out; omega)]; rfl
            have BH := Lib.hid (bhas_any HB.out oi)
            rw [HH.out] at BH
            unfold sp at BH
            go_wp2_with fail
            refine BH.out.mono ?_
            rintro e w3 ⟨rfl, rfl⟩
            go_wp2_with fail
            go_roundw
            case rel => exact ⟨k + 1, s, g, L, by omega, by omega, by go_num, rfl, PF.out⟩
            case measure => simp only [intOf]; omega
          · as_aux_lemma =>
            have BC := Lib.hid (bcopy_any HB.out)
            unfold sp at BC
            go_wp2_with fail
            refine BC.out.mono ?_
            rintro e w3 ⟨s5, g5, c5, W5, rfl, hb5, hs5, hg5, hb3⟩
            have HB5 := Lib.hid hb5
            have HS5 := Lib.hid (And.intro hs5 hg5)
            clear hb5 hs5 hg5
            have BH := Lib.hid (bhas_any (bit_below HB.out hb3) 0)
            have BP := Lib.hid (bput_any (bit_below HB.out hb3) 0 (!(hasL L 0)))
            unfold sp at *
            go_wp2_with fail
            refine BH.out.mono ?_
            rintro e w4 ⟨rfl, rfl⟩
            go_wp2_with fail
            refine BP.out.mono ?_
            rintro e w4 ⟨W4, rfl, hb4, hg4⟩
            have DONE : Hid (PlB w w4 s5 g5 gw L0.length L) := by
              have h1 := hsz.out
              have h2 := HS5.out
              have h3 := HBF.out.1
              refine ⟨⟨_, _, bit_grown HB5.out hg4 (by intro e; injection e with e; omega) (by intro e; injection e with e; omega)⟩, blk_grown (blk_below PF.out.row hb3) hg4 (by intro e; injection e with e; exact PF.out.ng e), hLN.out, by omega, by omega, by have := PF.out.be.size; omega, PF.out.ow, b_grown (b_call PF.out.be hb3) hg4 PF.out.og⟩
            clear hb4 hg4
            go_wp2_with fail
            go_roundw
            case rel => exact ⟨k + 1, s5, g5, L, by omega, by omega, by go_num, rfl, DONE.out⟩
            case measure => simp only [intOf]; omega
          · as_aux_lemma =>
            go_wp2_with fail
            go_roundw
            case rel => exact ⟨k + 1, s, g, L, by omega, by omega, by go_num, rfl, PF.out⟩
            case measure => simp only [intOf]; omega
        · have j0 : (0 : Int) ≤ j := by omega
          have j1 : (j : Int) < L0.length := by omega
          rcases hkd with rfl | rfl | rfl | rfl | rfl | rfl | ⟨n0, n1, n2, n3, n4, n5⟩
          · as_aux_lemma =>
            have BP := Lib.hid (bput_in HB.out j ov (by have := hLN.out; omega))
            unfold sp at BP
            go_wp2_with fail
            refine BP.out.mono ?_
            rintro e w3 ⟨rfl, hb3, hg3⟩
            have BF3 := blk_grown HBF.out hg3 (by have := hsz.out; intro e; injection e with e; omega)
            have RW3 := blk_grown PF.out.row hg3 (by intro e; injection e with e; exact PF.out.ng e)
            obtain ⟨f0, f1, f2, ff⟩ := blk3 BF3
            have c0 := bools_at RW3 (show j < L.length by have := hLN.out; omega)
            have c1 := RW3.2.2
            have hB3 := b_grown PF.out.be hg3 PF.out.og
            have H3 := Lib.hid hb3
            have HR3 := Lib.hid RW3
            have DONE : Hid (PlB w (w3.setCell ⟨gw, j, none⟩ (.bool ov)) s g gw L0.length (L.set j ov)) := by
              refine ⟨⟨_, _, bit_grown H3.out (gb_set (gb_refl _ _) _ _ _) (by intro e; injection e with e; exact PF.out.ns e.symm) (by intro e; injection e with e; exact PF.out.ng e.symm)⟩, ?_, by rw [List.length_set]; exact hLN.out, PF.out.ns, PF.out.ng, PF.out.og, PF.out.ow, b_set hB3 PF.out.ow _⟩
              have := blk_set HR3.out j (.bool ov)
              rw [row_bools, ← List.map_set, ← row_bools] at this
              exact this
            clear hb3 hg3 BF3 RW3 hB3
            go_wp2_with fail
            go_roundw
            case rel => exact ⟨k + 1, s, g, L.set j ov, by omega, by omega, by go_num, rfl, DONE.out⟩
            case measure => simp only [intOf]; omega
          · as_aux_lemma =>
            have BP := Lib.hid (bput_in HB.out j ov (by have := hLN.out; omega))
            unfold sp at BP
            go_wp2_with fail
            refine BP.out.mono ?_
            rintro e w3 ⟨rfl, hb3, hg3⟩
            have BF3 := blk_grown HBF.out hg3 (by have := hsz.out; intro e; injection e with e; omega)
            have RW3 := blk_grown PF.out.row hg3 (by intro e; injection e with e; exact PF.out.ng e)
            obtain ⟨f0, f1, f2, ff⟩ := blk3 BF3
            have c0 := bools_at RW3 (show j < L.length by have := hLN.out; omega)
            have c1 := RW3.2.2
            have hB3 := b_grown PF.out.be hg3 PF.out.og
            have H3 := Lib.hid hb3
            have HR3 := Lib.hid RW3
            have DONE : Hid (PlB w (w3.setCell ⟨gw, j, none⟩ (.bool ov)) s g gw L0.length (L.set j ov)) := by
              refine ⟨⟨_, _, bit_grown H3.out (gb_set (gb_refl _ _) _ _ _) (by intro e; injection e with e; exact PF.out.ns e.symm) (by intro e; injection e with e; exact PF.out.ng e.symm)⟩, ?_, by rw [List.length_set]; exact hLN.out, PF.out.ns, PF.out.ng, PF.out.og, PF.out.ow, b_set hB3 PF.out.ow _⟩
              have := blk_set HR3.out j (.bool ov)
              rw [row_bools, ← List.map_set, ← row_bools] at this
              exact this
            clear hb3 hg3 BF3 RW3 hB3
            go_wp2_with fail
            go_roundw
            case rel => exact ⟨k + 1, s, g, L.set j ov, by omega, by omega, by go_num, rfl, DONE.out⟩
            case measure => simp only [intOf]; omega
          · as_aux_lemma =>
            have BP := Lib.hid (bput_in HB.out j ov (by have := hLN.out; omega))
            unfold sp at BP
            go_wp2_with fail
            refine BP.out.mono ?_
            rintro e w3 ⟨rfl, hb3, hg3⟩
            have BF3 := blk_grown HBF.out hg3 (by have := hsz.out; intro e; injection e with e; omega)
            have RW3 := blk_grown PF.out.row hg3 (by intro e; injection e with e; exact PF.out.ng e)
            obtain ⟨f0, f1, f2, ff⟩ := blk3 BF3
            have c0 := bools_at RW3 (show j < L.length by have := hLN.out; omega)
            have c1 := RW3.2.2
            have hB3 := b_grown PF.out.be hg3 PF.out.og
            have H3 := Lib.hid hb3
            have HR3 := Lib.hid RW3
            have DONE : Hid (PlB w (w3.setCell ⟨gw, j, none⟩ (.bool ov)) s g gw L0.length (L.set j ov)) := by
              refine ⟨⟨_, _, bit_grown H3.out (gb_set (gb_refl _ _) _ _ _) (by intro e; injection e with e; exact PF.out.ns e.symm) (by intro e; injection e with e; exact PF.out.ng e.symm)⟩, ?_, by rw [List.length_set]; exact hLN.out, PF.out.ns, PF.out.ng, PF.out.og, PF.out.ow, b_set hB3 PF.out.ow _⟩
              have := blk_set HR3.out j (.bool ov)
              rw [row_bools, ← List.map_set, ← row_bools] at this
              exact this
            clear hb3 hg3 BF3 RW3 hB3
            go_wp2_with fail
            go_roundw
            case rel => exact ⟨k + 1, s, g, L.set j ov, by omega, by omega, by go_num, rfl, DONE.out⟩
            case measure => simp only [intOf]; omega
          · as_aux_lemma =>
            have BN := Lib.hid (bnext_any HB.out HTF.out (j : Int) ov)
            unfold NextE sp at BN
            have RN := Lib.hid (fun w' (hb : Below wf.heap.size wf w') => rnext2_any (l := L) (u := .slice (some ⟨gw, 0, none⟩) L0.length L0.length) (by rw [← hLN.out]; exact readR_blk (c := booE) (blk_below PF.out.row hb) (Nat.le_refl _) (by unfold maxLen; have := hLN.out; omega)) (by have := hLN.out; omega) (j : Int) ov)
            cases hn : nextO L ov ((j : Int)).toNat with
            | none =>
              rw [hn] at BN
              simp only [hn] at RN
              have HN := Lib.hid hn
              clear hn
              go_wp2_with fail
              refine BN.out.mono ?_
              rintro e w3 ⟨rfl, hb3⟩
              obtain ⟨f0, f1, f2, ff⟩ := blk3 (blk_below HBF.out hb3)
              go_wp2_with fail
              refine (RN.out w3 hb3).mono ?_
              rintro e w4 ⟨rfl, rfl⟩
              unfold elimO
              go_wp2_with fail
              go_roundw
              case rel => exact ⟨k + 1, s, g, L, by omega, by omega, by go_num, rfl, plB_below PF.out hb3⟩
              case measure => simp only [intOf]; omega
            | some i =>
              rw [hn] at BN
              simp only [hn] at RN
              have HN := Lib.hid hn
              have i0 : (0 : Int) ≤ i := by omega
              clear hn
              go_wp2_with fail
              refine BN.out.mono ?_
              rintro e w3 ⟨rfl, hb3⟩
              obtain ⟨f0, f1, f2, ff⟩ := blk3 (blk_below HBF.out hb3)
              go_wp2_with fail
              refine (RN.out w3 hb3).mono ?_
              rintro e w4 ⟨rfl, rfl⟩
              unfold elimO
              go_wp2_with fail
              go_roundw
              case rel => exact ⟨k + 1, s, g, L, by omega, by omega, by go_num, rfl, plB_below PF.out hb3⟩
              case measure => simp only [intOf]; omega
          · as_aux_lemma =>
            have c0 := bools_at PF.out.row (show j < L.length by have := hLN.out; omega)
            have HH : Hid (hasL L (j : Int) = L.getD j false) := by show _ = _; unfold hasL; rw [decide_eq_true (by have := hLN.out; omega), Bool.true_and, Int.toNat_natCast]
            have BH := Lib.hid (bhas_any HB.out (j : Int))
            rw [HH.out] at BH
            generalize L.getD j false = x at *
            have t1 : (!(x == x)) = false := by simp
            unfold sp at BH
            go_wp2_with fail
            refine BH.out.mono ?_
            rintro e w3 ⟨rfl, rfl⟩
            go_wp2_with fail
            go_roundw
            case rel => exact ⟨k + 1, s, g, L, by omega, by omega, by go_num, rfl, PF.out⟩
            case measure => simp only [intOf]; omega
          · as_aux_lemma =>
            have BC := Lib.hid (bcopy_any HB.out)
            unfold sp at BC
            go_wp2_with fail
            refine BC.out.mono ?_
            rintro e w3 ⟨s5, g5, c5, W5, rfl, hb5, hs5, hg5, hb3⟩
            have HB5 := Lib.hid hb5
            have HS5 := Lib.hid (And.intro hs5 hg5)
            clear hb5 hs5 hg5
            have BH := Lib.hid (bhas_any (bit_below HB.out hb3) 0)
            have BP := Lib.hid (bput_any (bit_below HB.out hb3) 0 (!(hasL L 0)))
            unfold sp at *
            go_wp2_with fail
            refine BH.out.mono ?_
            rintro e w4 ⟨rfl, rfl⟩
            go_wp2_with fail
            refine BP.out.mono ?_
            rintro e w4 ⟨W4, rfl, hb4, hg4⟩
            have DONE : Hid (PlB w w4 s5 g5 gw L0.length L) := by
              have h1 := hsz.out
              have h2 := HS5.out
              have h3 := HBF.out.1
              refine ⟨⟨_, _, bit_grown HB5.out hg4 (by intro e; injection e with e; omega) (by intro e; injection e with e; omega)⟩, blk_grown (blk_below PF.out.row hb3) hg4 (by intro e; injection e with e; exact PF.out.ng e), hLN.out, by omega, by omega, by have := PF.out.be.size; omega, PF.out.ow, b_grown (b_call PF.out.be hb3) hg4 PF.out.og⟩
            clear hb4 hg4
            go_wp2_with fail
            go_roundw
            case rel => exact ⟨k + 1, s5, g5, L, by omega, by omega, by go_num, rfl, DONE.out⟩
            case measure => simp only [intOf]; omega
          · as_aux_lemma =>
            go_wp2_with fail
            go_roundw
            case rel => exact ⟨k + 1, s, g, L, by omega, by omega, by go_num, rfl, PF.out⟩
            case measure => simp only [intOf]; omega
    · have e : k = ops.length := by omega
      have PF := hp
      have HTF := Lib.hid (tabZ_below HT.out PF.out.be)
      obtain ⟨cc, WW, HB⟩ : ∃ cc WW, Hid (BitAt wr s g cc WW L) := PF.out.bit
      have hLN := Lib.hid PF.out.len
      clear hp hbw e
      go_wp2_with fail
      refine (lsame_any HB.out HTF.out (v := .slice (some ⟨gw, 0, none⟩) L0.length L0.length) (by rw [← hLN.out]; exact readR_blk (c := booE) PF.out.row (Nat.le_refl _) (by unfold maxLen; have := hLN.out; omega))).mono ?_
      rintro e w3 ⟨rfl, hb3⟩
      have HB3 := b_call PF.out.be hb3
      go_wp2_with fail
      refine (awake02 (tabZ_below HT.out HB3)).mono ?_
      rintro e w5 ⟨rfl, hb5⟩
      go_wp2_with fail
      go_ret
      exact ⟨rfl, b_call HB3 hb5⟩
end Go.Proofs.YtfbdnjmljdfjjaaDoor
