/- ProgRead, walked: whatever the program and the bytes, the answer is true. Conditions: the arguments read as lists, numbers are of their kinds. -/
import Derived.Test.YtdhkemnebppkhaaPBytes25
import Derived.Test.YtdhkemnebppkhaaRRp25
namespace Go.Proofs.Ytdhkemnebppkhaa
open Go.RowKit
set_option linter.unusedVariables false
set_option linter.unusedSimpArgs false
attribute [local go_sem] over_cell over_frozen
theorem ownB_pre {w : World} {B n m c : Nat} {a : Option Addr} {L : List Int} (h : OwnB w B (.slice a n c) L) (hm : m ≤ n) : OwnB w B (.slice a m c) (L.take m) := by
  obtain ⟨h1, h2⟩ := h
  rcases h2 with ⟨e, h3⟩ | ⟨g, cap, cur, e, h3, h4, h5, h6, h7, h8⟩
  · cases e
    obtain rfl : m = 0 := by omega
    exact ownB_nil _ _
  · cases e
    have hl : (L.take m).length = m := by rw [List.length_take]; omega
    refine ⟨by rw [byts_length, Nat.mul_one], Or.inr ⟨g, c, cur, by rw [hl], h3, h4, by rw [hl]; omega, h6, h7, ?_⟩⟩
    rw [hl]
    have e2 : byts (L.take m) = (byts L).take m := by unfold byts; rw [List.map_take]
    rw [e2, ← h8, List.take_take]
    congr 1; omega
theorem isBytes_set {L : List Int} (h : IsBytes L) {y : Int} (hy : 0 ≤ y ∧ y < 256) (k : Nat) : IsBytes (L.set k y) := fun x hx => by
  rcases List.mem_or_eq_of_mem_set hx with q | rfl
  · exact h x q
  · exact hy
theorem isBytes_get {L : List Int} (h : IsBytes L) {j : Nat} (hj : j < L.length) : 0 ≤ L.getD j 0 ∧ L.getD j 0 < 256 := by
  rw [List.getD_eq_getElem?_getD, List.getElem?_eq_getElem hj]
  exact h _ (List.getElem_mem hj)
/-- Bytes of its own that are being put together. -/
def PutSt (B : Nat) (wr : World) (a : Option Addr) (n c : Nat) : Prop := ∃ L, L.length = n ∧ OwnB wr B (.slice a n c) L ∧ IsBytes L
theorem readP_zero (w : World) : ReadP w prV0 prM0 := ⟨rfl, readI_nil _, rfl, [], readR_nil _, trivial⟩
theorem small_zero : SmallP prM0 := ⟨by decide, by decide, fun f hf => by cases hf⟩
set_option maxRecDepth 1000000 in
set_option maxHeartbeats 8000000 in
theorem progRead_any (p : PrV) (P : PrM) (raw : Bool) (ua uv um : Value) (ats vs ms : List Int) (cut : Int) (w : World) (h : ReadP w p P) (hgd : GoodP P) (hat : ReadI w ua ats) (hvs : ReadB w uv vs) (hvb : IsBytes vs) (hms : ReadB w um ms) (hmb : IsBytes ms) :
    Calls Try.prog 9 #[aggP p, .bool raw, ua, uv, .int .i64 cut, um] w fun e w' => e = .returned (.bool true) ∧ Below w.heap.size w w' := by
  have H := Lib.hid h
  obtain ⟨C, hC⟩ : ∃ C, C = cutP P := ⟨_, rfl⟩
  have HC := Lib.hid hC
  have HGD : Hid (GoodP C) := by show GoodP C; rw [hC]; exact good_cut hgd
  obtain ⟨u, ⟨ga, gn, gc⟩, m, ⟨fa, fn, fc⟩⟩ := p
  obtain ⟨aa, ac, rfl⟩ := readI_len hat
  obtain ⟨va, vc, rfl⟩ := readB_len hvs
  obtain ⟨ma, mc, rfl⟩ := readB_len hms
  have hal : (ats.length : Int) ≤ 9223372036854775807 := by
    obtain ⟨_, _, e, q1, q2, _⟩ := hat; have := cap_le q2; omega
  have hml : ms.length ≤ mc := by
    obtain ⟨_, _, e, q1, q2, _⟩ := hms; cases e; exact q1
  have hmc : (mc : Int) ≤ 9223372036854775807 := by
    obtain ⟨_, _, e, q1, q2, _⟩ := hms; cases e; have := cap_le q2; omega
  have HAT := Lib.hid hat
  have HVS := Lib.hid hvs
  have HMS := Lib.hid hms
  have HVB := Lib.hid hvb
  have HMB := Lib.hid hmb
  clear h hgd hC hat hvs hms hvb hmb
  unfold aggP Sl.v
  simp only
  have HB0 := Lib.hid (b_alloc (Below.refl w.heap.size w) (.cells #[.bool u, .slice ga gn gc, .int .i64 m, .slice fa fn fc] 54))
  have HX0 := Lib.hid (blk_new w #[.bool u, .slice ga gn gc, .int .i64 m, .slice fa fn fc] 54)
  go_enter Try.func9, Try.ntmps9
  go_wp2_with fail
  refine (cut_made ⟨u, ⟨ga, gn, gc⟩, m, ⟨fa, fn, fc⟩⟩ P w _ H.out HB0.out).mono ?_
  rintro e w1 ⟨q, rfl, hcm, hb1⟩
  rw [← HC.out] at hcm
  obtain ⟨qu, ⟨qa, qn, qc⟩, qm, ⟨ra, rn, rc⟩⟩ := q
  have BX1 := blk_below HX0.out hb1
  have HB1 := Lib.hid (b_call HB0.out hb1)
  have HCM := Lib.hid hcm
  have hl1 := BX1.1
  have HX1 := Lib.hid BX1
  obtain ⟨c0, c1, c2, c3, cf⟩ := blk4 BX1
  clear hcm hb1 BX1
  unfold aggP Sl.v
  simp only
  go_upto_region 2 with fail
  refine wp_named ?_
  intro W hW
  have BW : Blk W w.heap.size [.bool qu, .slice qa qn qc, .int .i64 qm, .slice ra rn rc] := by rw [hW]; exact blk_set (blk_set (blk_set (blk_set HX1.out 0 _) 1 _) 2 _) 3 _
  have GW := gb_set (gb_set (gb_set (gb_set (gb_refl w1 (some w.heap.size)) 0 none (.bool qu)) 1 none (.slice qa qn qc)) 2 none (.int .i64 qm)) 3 none (.slice ra rn rc)
  rw [← hW] at GW
  have hBW : Below w.heap.size w W := b_grown HB1.out GW (Nat.le_refl _)
  have RW : ReadP W ⟨qu, ⟨qa, qn, qc⟩, qm, ⟨ra, rn, rc⟩⟩ C := cutMade_read (cutMade_grown HCM.out GW (by simp)) hBW
  have HR := Lib.hid RW
  have HBW := Lib.hid hBW
  have HK : Hid (∀ w', Below W.heap.size W w' → w'.cell? ⟨w.heap.size, 0, none⟩ = some (.bool qu) ∧ w'.cell? ⟨w.heap.size, 1, none⟩ = some (.slice qa qn qc) ∧ w'.cell? ⟨w.heap.size, 2, none⟩ = some (.int .i64 qm) ∧ w'.cell? ⟨w.heap.size, 3, none⟩ = some (.slice ra rn rc)) := Lib.hid (fun w' hb => by
    obtain ⟨y0, y1, y2, y3, _⟩ := blk4 (blk_below BW hb); exact ⟨y0, y1, y2, y3⟩)
  have HAW := Lib.hid (readI_below HAT.out hBW)
  have HVW := Lib.hid (readB_below HVS.out hBW)
  have HMW := Lib.hid (readB_below HMS.out hBW)
  clear hW GW hBW RW c0 c1 c2 c3 cf BW HX1 hl1 HCM HB1 HAT HVS HMS
  obtain ⟨c0, c1, c2, c3⟩ := HK.out W (Below.refl _ _)
  obtain ⟨t, ht⟩ : ∃ t, t = mayP C := ⟨_, rfl⟩
  have HT := Lib.hid ht
  clear ht
  go_upto_region 3 with fail
  go_cut [29] (fun v wx => v = .bool (t && !raw) ∧ Below W.heap.size W wx)
  case first =>
    go_wp2_with fail
    refine (rmay25_any ⟨qu, ⟨qa, qn, qc⟩, qm, ⟨ra, rn, rc⟩⟩ C _ HR.out).mono ?_
    rintro e w2 ⟨rfl, hb2⟩
    rw [← HT.out]
    cases t <;> cases raw <;> (go_wp2_with fail; go_meet; case rel => exact ⟨rfl, hb2⟩)
  case rest =>
  obtain ⟨rfl, hbc⟩ := hcut
  clear c0 c1 c2 c3
  obtain ⟨c0, c1, c2, c3⟩ := HK.out wc hbc
  obtain ⟨W1, hW1⟩ : ∃ x, x = wc := ⟨_, rfl⟩
  subst hW1
  have HBC := Lib.hid hbc
  clear hbc
  obtain ⟨d, hd⟩ : ∃ d, d = (t && !raw) := ⟨_, rfl⟩
  rw [← hd]
  have HD : Hid (d = true → mayP C = true) := Lib.hid (fun e => by rw [hd] at e; rw [← HT.out]; revert e; cases t <;> simp)
  clear hd
  go_upto_if 29 with fail
  go_cut [13] (fun v wx => (∃ a n c, v = .slice a n c ∧ n ≤ 20320 ∧ PutSt W.heap.size wx a n c) ∧ Below W.heap.size W wx)
  case first =>
    cases d
    · go_wp2_with fail
      go_meet
      case rel => exact ⟨⟨none, 0, 0, rfl, by decide, [], rfl, ownB_nil _ _, isBytes_nil⟩, HBC.out⟩
    · have HM := Lib.hid (HD.out rfl)
      clear HD
      go_wp2_with fail
      refine (rbytes25_any ⟨qu, ⟨qa, qn, qc⟩, qm, ⟨ra, rn, rc⟩⟩ C _ (readP_below HR.out HBC.out) HM.out HGD.out).mono ?_
      rintro e w3 ⟨v3, rfl, own3, hb3⟩
      obtain ⟨xa, xc, rfl⟩ := readB_len (ownB_read own3)
      have HN := Lib.hid (bytP_le HM.out)
      have HO3 := Lib.hid (ownB_mono own3 HBC.out.size)
      have HB3 := Lib.hid (b_call HBC.out hb3)
      obtain ⟨n, hn⟩ : ∃ n, n = (bytP C).length := ⟨_, rfl⟩
      have HNN := Lib.hid hn
      rw [← hn]
      clear own3 hb3 c0 c1 c2 c3 hn
      go_wp2_with fail
      go_meet
      case rel => exact ⟨⟨xa, n, xc, rfl, by rw [HNN.out]; exact HN.out, bytP C, HNN.out.symm, by rw [HNN.out]; exact HO3.out, isBytes_bytP _⟩, HB3.out⟩
  case rest =>
  obtain ⟨⟨a, n, c, rfl, hn, hst⟩, hbc⟩ := hcut
  clear c0 c1 c2 c3 HBC HD
  obtain ⟨W2, hW2⟩ : ∃ x, x = wc := ⟨_, rfl⟩
  subst hW2
  have HST := Lib.hid hst
  have HB2 := Lib.hid hbc
  clear hst hbc
  have hn63 : (n : Int) < 9223372036854775807 := by omega
  go_wp2_with fail
  go_loopw [34] (fun i wr => ∃ j : Nat, j ≤ ats.length ∧ i = .int .i64 j ∧ Hid (PutSt W.heap.size wr a n c) ∧ Hid (Below W.heap.size W wr)) (fun i _ => ats.length - (intOf i).toNat)
  case atStart => exact ⟨0, Nat.zero_le _, rfl, HST.out, HB2.out⟩
  case round =>
    obtain ⟨j, hj, rfl, hs, hb⟩ := hrel
    clear HST HB2
    have j0 : (0 : Int) ≤ j := by omega
    by_cases hlt : j < ats.length
    · obtain ⟨bl, off, cp, e1, r1, r2, hbl, r4⟩ := readI_pos HAW.out (by omega)
      cases e1
      have j1 : (j : Int) < ats.length := by omega
      have hc : wr.cell? ⟨bl, off + j, none⟩ = some (.int .i64 (ats.getD j 0)) := (hb.out.cell (p := ⟨bl, off + j, none⟩) hbl).trans (r4 j hlt)
      have hs2 := hb.out.size
      generalize ats.getD j 0 = x at *
      clear r4
      by_cases d1 : (j : Int) < 4
      · by_cases d2 : (j : Int) < vs.length
        · by_cases d3 : 0 ≤ x
          · by_cases d4 : x < n
            · obtain ⟨vb, vo, vcp, e2, s1, s2, hvb, s4⟩ := readB_pos HVW.out (by omega)
              cases e2
              have hvc : wr.cell? ⟨vb, vo + j, none⟩ = some (.int .u8 (vs.getD j 0)) := (hb.out.cell (p := ⟨vb, vo + j, none⟩) hvb).trans (s4 j (by omega))
              have HY := Lib.hid (isBytes_get HVB.out (j := j) (by omega))
              generalize vs.getD j 0 = y at *
              clear s4
              obtain ⟨L, hl, own, isb⟩ := hs.out
              obtain ⟨g, cap, e3, hgW, hgl, _, _, hcell, hfz⟩ := ownB_form own (by omega)
              rw [hl] at e3
              cases e3
              obtain ⟨k, hk⟩ : ∃ k : Nat, x = k := ⟨x.toNat, by omega⟩
              subst hk
              have cg := hcell k (by omega)
              have fg := hfz k
              have HO := Lib.hid (ownB_set own hl.symm k y)
              have HI := Lib.hid (isBytes_set isb HY.out k)
              have HL := Lib.hid (show (L.set k y).length = n by rw [List.length_set]; exact hl)
              have HB := Lib.hid (b_set (p := ⟨g, k, none⟩) hb.out hgW (.int .u8 y))
              clear own isb hcell hfz hl HY
              go_wp2_with fail
              go_roundw
              case rel => exact ⟨j + 1, by omega, by first | rfl | trivial | go_num, ⟨_, HL.out, HO.out, HI.out⟩, HB.out⟩
              case measure => simp [intOf]; omega
            · go_wp2_with fail
              go_roundw
              case rel => exact ⟨j + 1, by omega, by first | rfl | trivial | go_num, hs.out, hb.out⟩
              case measure => simp [intOf]; omega
          · go_wp2_with fail
            go_roundw
            case rel => exact ⟨j + 1, by omega, by first | rfl | trivial | go_num, hs.out, hb.out⟩
            case measure => simp [intOf]; omega
        · go_wp2_with fail
          go_roundw
          case rel => exact ⟨j + 1, by omega, by first | rfl | trivial | go_num, hs.out, hb.out⟩
          case measure => simp [intOf]; omega
      · go_wp2_with fail
        go_roundw
        case rel => exact ⟨j + 1, by omega, by first | rfl | trivial | go_num, hs.out, hb.out⟩
        case measure => simp [intOf]; omega
    · obtain ⟨W3, hW3⟩ : ∃ x, x = wr := ⟨_, rfl⟩
      subst hW3
      obtain ⟨d, hd⟩ : ∃ d, d = decide (0 < cut ∧ cut ≤ (n : Int)) := ⟨_, rfl⟩
      go_upto_region 11 with fail
      go_cut [72] (fun v wx => v = .bool d ∧ wx = W3)
      case first =>
        by_cases q1 : 0 < cut
        · by_cases q2 : cut ≤ n
          · have e : d = true := by rw [hd]; exact decide_eq_true ⟨q1, q2⟩
            clear hd
            subst e
            go_wp2_with fail
            go_meet
            case rel => exact ⟨rfl, rfl⟩
          · have e : d = false := by rw [hd]; exact decide_eq_false (fun q => q2 q.2)
            clear hd
            subst e
            go_wp2_with fail
            go_meet
            case rel => exact ⟨rfl, rfl⟩
        · have e : d = false := by rw [hd]; exact decide_eq_false (fun q => q1 q.1)
          clear hd
          subst e
          go_wp2_with fail
          go_meet
          case rel => exact ⟨rfl, rfl⟩
      case rest =>
      obtain ⟨rfl, hwc⟩ := hcut
      cases hwc
      have HDD := Lib.hid hd
      clear hd
      go_upto_if 72 with fail
      go_cut [13] (fun v wx => wx = W3 ∧ ∃ m, m ≤ n ∧ v = .slice a m c)
      case first =>
        cases d
        · go_wp2_with fail
          go_meet
          case rel => exact ⟨rfl, n, Nat.le_refl _, rfl⟩
        · obtain ⟨q1, q2⟩ := of_decide_eq_true HDD.out.symm
          obtain ⟨L, hl, own, isb⟩ := hs.out
          obtain ⟨g, cap, e3, hgW, hgl, hlc, hcm, _, _⟩ := ownB_form own (by omega)
          rw [hl] at e3
          cases e3
          have hcm := cap_le hcm
          obtain ⟨k, hk⟩ : ∃ k : Nat, cut = (n : Int) - k := ⟨((n : Int) - cut).toNat, by omega⟩
          subst hk
          clear own isb
          go_wp2_with fail
          go_meet
          case rel => exact ⟨rfl, _, by first | omega | (simp; omega), rfl⟩
      case rest =>
      obtain ⟨hwc, k1, hk1, rfl⟩ := hcut
      cases hwc
      obtain ⟨L, hl, own, isb⟩ := hs.out
      have HO := Lib.hid (ownB_pre own hk1)
      have HIB := Lib.hid (isBytes_take isb k1)
      have HLL := Lib.hid (show (L.take k1).length ≤ 20320 by rw [List.length_take]; omega)
      clear own isb hl hs HDD
      generalize L.take k1 = Y at *
      go_upto_if 81 with fail
      go_cut [5] (fun v wx => wx = W3 ∧ ∃ k, k ≤ ms.length ∧ k ≤ 60 ∧ v = .slice ma k mc)
      case first =>
        have hmc2 : (60 : Int) < ms.length → 60 ≤ mc := fun q => by omega
        have HC2 := Lib.hid hmc2
        have HHM := Lib.hid hmc
        clear hmc hml hal hn63 hmc2 hlt hj j0 hk1 hn
        by_cases q1 : (60 : Int) < ms.length
        · have hmc3 := HC2.out q1
          go_wp2_with fail
          go_meet
          case rel => exact ⟨rfl, 60, by omega, by omega, rfl⟩
        · go_wp2_with fail
          go_meet
          case rel => exact ⟨rfl, _, Nat.le_refl _, by omega, rfl⟩
      case rest =>
      obtain ⟨hwc, k2, hk2, hk60, rfl⟩ := hcut
      cases hwc
      have HM3 := Lib.hid (readB_take (readB_below HMW.out hb.out) hk2)
      have HIZ := Lib.hid (isBytes_take HMB.out k2)
      have HLZ := Lib.hid (show (ms.take k2).length ≤ 60 by rw [List.length_take]; omega)
      generalize ms.take k2 = Z at *
      have HLS := Lib.hid (show Y.length + Z.length ≤ 1099511627776 by have := HLL.out; have := HLZ.out; omega)
      have HSB := Lib.hid hb.out.size
      go_upto_region 16 with (at_builtin; (refine appendB rfl _ _ rfl W.heap.size _ Y rfl HO.out _ Z rfl HM3.out HLS.out HSB.out ?_); intro v2 w2 own2 hg2; have hb2 := b_ownB hb.out HO.out hg2; clear hg2)
      obtain ⟨X, hX⟩ : ∃ X, X = Y ++ Z := ⟨_, rfl⟩
      rw [← hX] at own2
      have HXL := Lib.hid (show X.length ≤ 274877906944 by rw [hX, List.length_append]; have := HLL.out; have := HLZ.out; omega)
      have HXI := Lib.hid (show IsBytes X by rw [hX]; exact isBytes_append HIB.out HIZ.out)
      clear hX HO HM3 HLS HSB HLL HLZ HIB HIZ hb hml hmc hal
      have HB2 := Lib.hid (b_call HBW.out hb2)
      clear hb2
      obtain ⟨R, hR⟩ : ∃ R, R = rdProg X := ⟨_, rfl⟩
      cases R with
      | none =>
        obtain ⟨xa2, xc2, rfl⟩ := readB_len (ownB_read own2)
        have HRD := Lib.hid (ownB_read own2)
        have HNO := Lib.hid hR
        clear own2 hR
        go_wp2_with fail
        refine (pread_any _ X _ HRD.out HXI.out HXL.out).mono ?_
        intro e w5 h5
        obtain ⟨rfl, hb5⟩ := readEnd_none h5 HNO.out.symm
        have HB5 := Lib.hid (b_call HB2.out hb5)
        have HRD5 := Lib.hid (readB_below HRD.out hb5)
        clear h5 hb5
        unfold aggP prV0 Sl.v
        simp only
        have HX5 := Lib.hid (blk_new w5 #[.bool false, .slice none 0 0, .int .i64 0, .slice none 0 0] PROT)
        have HA5 := Lib.hid (b_alloc (Below.refl w5.heap.size w5) (.cells #[.bool false, .slice none 0 0, .int .i64 0, .slice none 0 0] PROT))
        go_wp2_with fail
        refine (qread_any _ X _ (readB_below HRD5.out HA5.out) HXI.out HXL.out).mono ?_
        intro e w6 h6
        obtain ⟨q, rfl, hb6⟩ := qreadEnd_none h6 HNO.out.symm
        obtain ⟨zu, ⟨za, zn, zc⟩, zm, ⟨ya, yn, yc⟩⟩ := q
        have HX6 := Lib.hid (blk_below HX5.out hb6)
        have HB6 := Lib.hid (b_call (b_alloc HB5.out _) hb6)
        have hs6 := HX6.out.1
        have HB7 := Lib.hid (b_alloc HB6.out (.cells #[.bool zu, .slice za zn zc, .int .i64 zm, .slice ya yn yc] 54))
        clear h6 hb6
        obtain ⟨c0, c1, c2, c3, cf⟩ := blk4 HX6.out
        unfold aggP Sl.v
        simp only
        go_wp2_with fail
        refine (psame_any prV0 prV0 prM0 prM0 _ (readP_zero _) (readP_zero _) small_zero small_zero).mono ?_
        rintro e w7 ⟨bb, rfl, hbb, hb7⟩
        obtain rfl : bb = true := hbb.2 rfl
        have HB8 := Lib.hid (b_call HB7.out hb7)
        clear hbb hb7 c0 c1 c2 c3 cf
        go_wp2_with fail
        refine (awake25 _).mono ?_
        rintro e w8 ⟨rfl, hb8⟩
        have HB9 := Lib.hid (b_call HB8.out hb8)
        clear hb8
        go_wp2_with fail
        go_ret
        exact ⟨rfl, HB9.out⟩
      | some D =>
        obtain ⟨hmD, hbD, hgD⟩ := rdProg_back hR.symm HXI.out
        have HMD := Lib.hid hmD
        have HGDD := Lib.hid hgD
        have HSD := Lib.hid (small_ok (okP_of hmD))
        have HYES := Lib.hid hR
        have HBD := Lib.hid hbD
        obtain ⟨N, hN⟩ : ∃ N, N = X.length := ⟨_, rfl⟩
        have HN := Lib.hid hN
        have HN0 : Hid (0 < N) := by show 0 < N; rw [hN, ← hbD]; unfold bytP headP; simp
        obtain ⟨s, hs⟩ : ∃ s, s = bytesOf X := ⟨_, rfl⟩
        have HS := Lib.hid hs
        have HRD := ownB_read own2
        obtain ⟨g2, c2', rfl, _, _, hcv2⟩ := conv_own own2 (n := N) HN.out HN0.out HXI.out
        rw [← HS.out] at hcv2
        have HCV2 := Lib.hid hcv2
        have HRD := Lib.hid HRD
        clear own2 hR hmD hbD hgD hN hs hcv2
        go_wp2_with fail
        refine (pread_any _ X _ HRD.out HXI.out HXL.out).mono ?_
        intro e w5 h5
        obtain ⟨x, rfl, hmx, hb5⟩ := readEnd_some h5 HYES.out.symm
        obtain ⟨xu, ⟨xa, xn, xc⟩, xm, ⟨ya, yn, yc⟩⟩ := x
        have HMX := Lib.hid (madeP_read hmx)
        have HB52 := Lib.hid hb5
        clear h5 hmx hb5
        unfold aggP Sl.v
        simp only
        have HX5 := Lib.hid (blk_new w5 #[.bool xu, .slice xa xn xc, .int .i64 xm, .slice ya yn yc] PROT)
        have HA5 := Lib.hid (b_alloc (Below.refl w5.heap.size w5) (.cells #[.bool xu, .slice xa xn xc, .int .i64 xm, .slice ya yn yc] PROT))
        have HA52 := Lib.hid (b_alloc HB52.out (.cells #[.bool xu, .slice xa xn xc, .int .i64 xm, .slice ya yn yc] PROT))
        go_wp2_with fail
        refine (qread_any _ X _ (readB_below HRD.out HA52.out) HXI.out HXL.out).mono ?_
        intro e w6 h6
        obtain ⟨z, rfl, hrz, hb6⟩ := qreadEnd_some h6 HYES.out.symm
        obtain ⟨zu, ⟨za, zn, zc⟩, zm, ⟨ta, tn, tc⟩⟩ := z
        have HRZ := Lib.hid (readP_below hrz (b_alloc (Below.refl _ _) (.cells #[.bool zu, .slice za zn zc, .int .i64 zm, .slice ta tn tc] 54)))
        have HMX6 := Lib.hid (readP_below (readP_below (readP_below HMX.out HA5.out) hb6) (b_alloc (Below.refl _ _) (.cells #[.bool zu, .slice za zn zc, .int .i64 zm, .slice ta tn tc] 54)))
        have HX6 := Lib.hid (blk_below (blk_below HX5.out hb6) (b_alloc (Below.refl _ _) (.cells #[.bool zu, .slice za zn zc, .int .i64 zm, .slice ta tn tc] 54)))
        have HZ6 := Lib.hid (blk_new w6 #[.bool zu, .slice za zn zc, .int .i64 zm, .slice ta tn tc] 54)
        have HB62 := Lib.hid (b_alloc (b_call HA52.out hb6) (.cells #[.bool zu, .slice za zn zc, .int .i64 zm, .slice ta tn tc] 54))
        clear h6 hb6 hrz
        unfold aggP Sl.v
        simp only
        go_upto_region 20 with fail
        refine wp_named ?_
        intro W7 hW7
        rw [← hW7] at HRZ HMX6 HX6 HZ6 HB62
        clear hW7
        obtain ⟨c0, c1, c2, c3, cf⟩ := blk4 HX6.out
        go_wp2_with fail
        refine (pbytes_some ⟨xu, ⟨xa, xn, xc⟩, xm, ⟨ya, yn, yc⟩⟩ D _ HMX6.out HMD.out HGDD.out).mono ?_
        rintro e w9 ⟨v9, rfl, own9, hb9⟩
        rw [HBD.out] at own9
        obtain ⟨g9, c9, rfl, _, _, hcv9⟩ := conv_own own9 (n := N) HN.out HN0.out HXI.out
        rw [← HS.out] at hcv9
        have HB92 := Lib.hid (b_call HB62.out hb9)
        have HB97 := Lib.hid hb9
        have HCV9 := Lib.hid hcv9
        clear own9 hcv9 hb9 c0 c1 c2 c3 cf
        have HZ : Hid (∀ w', Below w9.heap.size w9 w' → ((w'.cell? ⟨w5.heap.size, 0, none⟩ = some (.bool xu) ∧ w'.cell? ⟨w5.heap.size, 1, none⟩ = some (.slice xa xn xc) ∧ w'.cell? ⟨w5.heap.size, 2, none⟩ = some (.int .i64 xm) ∧ w'.cell? ⟨w5.heap.size, 3, none⟩ = some (.slice ya yn yc)) ∧ (w'.cell? ⟨w6.heap.size, 0, none⟩ = some (.bool zu) ∧ w'.cell? ⟨w6.heap.size, 1, none⟩ = some (.slice za zn zc) ∧ w'.cell? ⟨w6.heap.size, 2, none⟩ = some (.int .i64 zm) ∧ w'.cell? ⟨w6.heap.size, 3, none⟩ = some (.slice ta tn tc)) ∧ (convert 37 9 (.slice (some ⟨g2, 0, none⟩) N c2')).run Try.prog w' = .ok (.string s) w' ∧ (convert 37 9 (.slice (some ⟨g9, 0, none⟩) N c9)).run Try.prog w' = .ok (.string s) w')) := Lib.hid (fun w' hb => by
          obtain ⟨y0, y1, y2, y3, _⟩ := blk4 (blk_below HX6.out (b_call HB97.out hb))
          obtain ⟨z0, z1, z2, z3, _⟩ := blk4 (blk_below HZ6.out (b_call HB97.out hb))
          exact ⟨⟨y0, y1, y2, y3⟩, ⟨z0, z1, z2, z3⟩, HCV2.out w' (b_call HB92.out hb), HCV9.out w' hb⟩)
        go_upto_region 21 with fail
        refine wp_region_held_drew (S := (fun w' => ((w'.cell? ⟨w5.heap.size, 0, none⟩ = some (.bool xu) ∧ w'.cell? ⟨w5.heap.size, 1, none⟩ = some (.slice xa xn xc) ∧ w'.cell? ⟨w5.heap.size, 2, none⟩ = some (.int .i64 xm) ∧ w'.cell? ⟨w5.heap.size, 3, none⟩ = some (.slice ya yn yc)) ∧ (w'.cell? ⟨w6.heap.size, 0, none⟩ = some (.bool zu) ∧ w'.cell? ⟨w6.heap.size, 1, none⟩ = some (.slice za zn zc) ∧ w'.cell? ⟨w6.heap.size, 2, none⟩ = some (.int .i64 zm) ∧ w'.cell? ⟨w6.heap.size, 3, none⟩ = some (.slice ta tn tc)) ∧ (convert 37 9 (.slice (some ⟨g2, 0, none⟩) N c2')).run Try.prog w' = .ok (.string s) w' ∧ (convert 37 9 (.slice (some ⟨g9, 0, none⟩) N c9)).run Try.prog w' = .ok (.string s) w'))) (by kernel_rfl) (HZ.out _ (b_drew (Below.refl _ _))) (fun hHeld => ?_)
        (refine wpAnyH_take (i := 0) (v := ?_) rfl (by kernel_rfl) (by kernel_rfl) (by kernel_rfl) (fun _ _ _ h => h) (Or.inl ⟨by rfl, ?_⟩) hHeld ?_; rotate_left; (focus (intro w hSw; (try dsimp only at hSw); go_simp; try (with_reducible rfl))); (try simp only [Act.put, List.getElem_toArray, List.getElem_cons_succ, List.getElem_cons_zero, List.setIfInBounds_toArray, List.set_cons_zero, List.set_cons_succ]))
        (refine wpAnyH_take (i := 1) (v := ?_) rfl (by kernel_rfl) (by kernel_rfl) (by kernel_rfl) (fun _ _ _ h => h) (Or.inl ⟨by rfl, ?_⟩) hHeld ?_; rotate_left; (focus (intro w hSw; (try dsimp only at hSw); go_simp; try (with_reducible rfl))); (try simp only [Act.put, List.getElem_toArray, List.getElem_cons_succ, List.getElem_cons_zero, List.setIfInBounds_toArray, List.set_cons_zero, List.set_cons_succ]))
        (refine wpAnyH_take (i := 2) (v := ?_) rfl (by kernel_rfl) (by kernel_rfl) (by kernel_rfl) (fun _ _ _ h => h) (Or.inl ⟨by rfl, ?_⟩) hHeld ?_; rotate_left; (focus (intro w hSw; (try dsimp only at hSw); go_simp; try (with_reducible rfl))); (try simp only [Act.put, List.getElem_toArray, List.getElem_cons_succ, List.getElem_cons_zero, List.setIfInBounds_toArray, List.set_cons_zero, List.set_cons_succ]))
        (refine wpAnyH_take (i := 3) (v := ?_) rfl (by kernel_rfl) (by kernel_rfl) (by kernel_rfl) (fun _ _ _ h => h) (Or.inl ⟨by rfl, ?_⟩) hHeld ?_; rotate_left; (focus (intro w hSw; (try dsimp only at hSw); go_simp; try (with_reducible rfl))); (try simp only [Act.put, List.getElem_toArray, List.getElem_cons_succ, List.getElem_cons_zero, List.setIfInBounds_toArray, List.set_cons_zero, List.set_cons_succ]))
        (refine wpAnyH_take (i := 5) (v := ?_) rfl (by kernel_rfl) (by kernel_rfl) (by kernel_rfl) (fun _ _ _ h => h) (Or.inl ⟨by rfl, ?_⟩) hHeld ?_; rotate_left; (focus (intro w hSw; (try dsimp only at hSw); go_simp; try (with_reducible rfl))); (try simp only [Act.put, List.getElem_toArray, List.getElem_cons_succ, List.getElem_cons_zero, List.setIfInBounds_toArray, List.set_cons_zero, List.set_cons_succ]))
        refine wpAnyH_ready (rs := [4]) (by kernel_rfl) (by simp) (AllReadyH.cons rfl (fun K hK => ?_) AllReadyH.nil)
        go_simp
        refine (plain25_any ⟨xu, ⟨xa, xn, xc⟩, xm, ⟨ya, yn, yc⟩⟩ D _ (readP_below HMX6.out (b_call HB97.out (by (repeat' (first | exact Below.refl _ _ | assumption | refine b_alloc ?_ _ | refine b_over ?_ _ | refine b_drew ?_ | refine b_call ?_ (by assumption)))))) HSD.out).mono ?_
        rintro e w10 ⟨k, rfl, hk10, hb10⟩
        obtain ⟨ku, ⟨ka, kn, kc⟩, km, ⟨ja, jn, jc⟩⟩ := k
        have HK10 := Lib.hid hk10
        clear hk10
        unfold aggP Sl.v
        simp only
        refine hK.out _ _ (HZ.out _ (by (repeat' (first | exact Below.refl _ _ | assumption | refine b_alloc ?_ _ | refine b_over ?_ _ | refine b_drew ?_ | refine b_call ?_ (by assumption))))) (fun hHeld => ?_)
        clear hK K
        (try simp only [Act.put, List.getElem_toArray, List.getElem_cons_succ, List.getElem_cons_zero, List.setIfInBounds_toArray, List.set_cons_zero, List.set_cons_succ])
        refine wpAnyH_ready (rs := [6]) (by kernel_rfl) (by simp) (AllReadyH.cons rfl (fun K hK => ?_) AllReadyH.nil)
        go_simp
        refine (rsame_eq ⟨ku, ⟨ka, kn, kc⟩, km, ⟨ja, jn, jc⟩⟩ ⟨zu, ⟨za, zn, zc⟩, zm, ⟨ta, tn, tc⟩⟩ D _ HK10.out (readP_below HRZ.out (b_call HB97.out (by (repeat' (first | exact Below.refl _ _ | assumption | refine b_alloc ?_ _ | refine b_over ?_ _ | refine b_drew ?_ | refine b_call ?_ (by assumption)))))) HMD.out HGDD.out).mono ?_
        rintro e w11 ⟨rfl, hb11⟩
        refine hK.out _ _ (HZ.out _ (by (repeat' (first | exact Below.refl _ _ | assumption | refine b_alloc ?_ _ | refine b_over ?_ _ | refine b_drew ?_ | refine b_call ?_ (by assumption))))) (fun hHeld => ?_)
        clear hK K
        (try simp only [Act.put, List.getElem_toArray, List.getElem_cons_succ, List.getElem_cons_zero, List.setIfInBounds_toArray, List.set_cons_zero, List.set_cons_succ])
        (refine wpAnyH_take (i := 7) (v := ?_) rfl (by kernel_rfl) (by kernel_rfl) (by kernel_rfl) (fun _ _ _ h => h) (Or.inl ⟨by rfl, ?_⟩) hHeld ?_; rotate_left; (focus (intro w hSw; (try dsimp only at hSw); go_simp; try (with_reducible rfl))); (try simp only [Act.put, List.getElem_toArray, List.getElem_cons_succ, List.getElem_cons_zero, List.setIfInBounds_toArray, List.set_cons_zero, List.set_cons_succ]))
        (refine wpAnyH_take (i := 8) (v := ?_) rfl (by kernel_rfl) (by kernel_rfl) (by kernel_rfl) (fun _ _ _ h => h) (Or.inl ⟨by rfl, ?_⟩) hHeld ?_; rotate_left; (focus (intro w hSw; (try dsimp only at hSw); go_simp; try (with_reducible rfl))); (try simp only [Act.put, List.getElem_toArray, List.getElem_cons_succ, List.getElem_cons_zero, List.setIfInBounds_toArray, List.set_cons_zero, List.set_cons_succ]))
        (refine wpAnyH_take (i := 9) (v := ?_) rfl (by kernel_rfl) (by kernel_rfl) (by kernel_rfl) (fun _ _ _ h => h) (Or.inl ⟨by rfl, ?_⟩) hHeld ?_; rotate_left; (focus (intro w hSw; (try dsimp only at hSw); go_simp; try (with_reducible rfl))); (try simp only [Act.put, List.getElem_toArray, List.getElem_cons_succ, List.getElem_cons_zero, List.setIfInBounds_toArray, List.set_cons_zero, List.set_cons_succ]))
        (refine wpAnyH_take (i := 10) (v := ?_) rfl (by kernel_rfl) (by kernel_rfl) (by kernel_rfl) (fun _ _ _ h => h) (Or.inl ⟨by rfl, ?_⟩) hHeld ?_; rotate_left; (focus (intro w hSw; (try dsimp only at hSw); go_simp; try (with_reducible rfl))); (try simp only [Act.put, List.getElem_toArray, List.getElem_cons_succ, List.getElem_cons_zero, List.setIfInBounds_toArray, List.set_cons_zero, List.set_cons_succ]))
        (refine wpAnyH_take (i := 11) (v := ?_) rfl (by kernel_rfl) (by kernel_rfl) (by kernel_rfl) (fun _ _ _ h => h) (Or.inl ⟨by rfl, ?_⟩) hHeld ?_; rotate_left; (focus (intro w hSw; (try dsimp only at hSw); go_simp; try (with_reducible rfl))); (try simp only [Act.put, List.getElem_toArray, List.getElem_cons_succ, List.getElem_cons_zero, List.setIfInBounds_toArray, List.set_cons_zero, List.set_cons_succ]))
        (refine wpAnyH_take (i := 12) (v := ?_) rfl (by kernel_rfl) (by kernel_rfl) (by kernel_rfl) (fun _ _ _ h => h) (Or.inl ⟨by rfl, ?_⟩) hHeld ?_; rotate_left; (focus (intro w hSw; (try dsimp only at hSw); go_simp; try (with_reducible rfl))); (try simp only [Act.put, List.getElem_toArray, List.getElem_cons_succ, List.getElem_cons_zero, List.setIfInBounds_toArray, List.set_cons_zero, List.set_cons_succ]))
        (refine wpAnyH_take (i := 13) (v := ?_) rfl (by kernel_rfl) (by kernel_rfl) (by kernel_rfl) (fun _ _ _ h => h) (Or.inl ⟨by rfl, ?_⟩) hHeld ?_; rotate_left; (focus (intro w hSw; (try dsimp only at hSw); go_simp; try (with_reducible rfl))); (try simp only [Act.put, List.getElem_toArray, List.getElem_cons_succ, List.getElem_cons_zero, List.setIfInBounds_toArray, List.set_cons_zero, List.set_cons_succ]))
        (refine wpAnyH_take (i := 14) (v := ?_) rfl (by kernel_rfl) (by kernel_rfl) (by kernel_rfl) (fun _ _ _ h => h) (Or.inl ⟨by rfl, ?_⟩) hHeld ?_; rotate_left; (focus (intro w hSw; (try dsimp only at hSw); go_simp; try (with_reducible rfl))); (try simp only [Act.put, List.getElem_toArray, List.getElem_cons_succ, List.getElem_cons_zero, List.setIfInBounds_toArray, List.set_cons_zero, List.set_cons_succ]))
        (refine wpAnyH_take (i := 15) (v := ?_) rfl (by kernel_rfl) (by kernel_rfl) (by kernel_rfl) (fun _ _ _ h => h) (Or.inl ⟨by rfl, ?_⟩) hHeld ?_; rotate_left; (focus (intro w hSw; (try dsimp only at hSw); go_simp; try (with_reducible rfl))); (try simp only [Act.put, List.getElem_toArray, List.getElem_cons_succ, List.getElem_cons_zero, List.setIfInBounds_toArray, List.set_cons_zero, List.set_cons_succ]))
        (refine wpAnyH_take (i := 16) (v := ?_) rfl (by kernel_rfl) (by kernel_rfl) (by kernel_rfl) (fun _ _ _ h => h) (Or.inl ⟨by rfl, ?_⟩) hHeld ?_; rotate_left; (focus (intro w hSw; (try dsimp only at hSw); go_simp; try (with_reducible rfl))); (try simp only [Act.put, List.getElem_toArray, List.getElem_cons_succ, List.getElem_cons_zero, List.setIfInBounds_toArray, List.set_cons_zero, List.set_cons_succ]))
        (refine wpAnyH_take (i := 17) (v := ?_) rfl (by kernel_rfl) (by kernel_rfl) (by kernel_rfl) (fun _ _ _ h => h) (Or.inl ⟨by rfl, ?_⟩) hHeld ?_; rotate_left; (focus (intro w hSw; (try dsimp only at hSw); go_simp; try (with_reducible rfl))); (try simp only [Act.put, List.getElem_toArray, List.getElem_cons_succ, List.getElem_cons_zero, List.setIfInBounds_toArray, List.set_cons_zero, List.set_cons_succ]))
        (refine wpAnyH_take (i := 18) (v := ?_) rfl (by kernel_rfl) (by kernel_rfl) (by kernel_rfl) (fun _ _ _ h => h) (Or.inl ⟨by rfl, ?_⟩) hHeld ?_; rotate_left; (focus (intro w hSw; (try dsimp only at hSw); go_simp; try (with_reducible rfl))); (try simp only [Act.put, List.getElem_toArray, List.getElem_cons_succ, List.getElem_cons_zero, List.setIfInBounds_toArray, List.set_cons_zero, List.set_cons_succ]))
        (refine wpAnyH_take (i := 19) (v := ?_) rfl (by kernel_rfl) (by kernel_rfl) (by kernel_rfl) (fun _ _ _ h => h) (Or.inl ⟨by rfl, ?_⟩) hHeld ?_; rotate_left; (focus (intro w hSw; (try dsimp only at hSw); go_simp; try (with_reducible rfl))); (try simp only [Act.put, List.getElem_toArray, List.getElem_cons_succ, List.getElem_cons_zero, List.setIfInBounds_toArray, List.set_cons_zero, List.set_cons_succ]))
        refine wpAnyH_ready (rs := [20]) (by kernel_rfl) (by simp) (AllReadyH.cons rfl (fun K hK => ?_) AllReadyH.nil)
        go_simp
        refine (awake25 _).mono ?_
        rintro e w14 ⟨rfl, hb14⟩
        refine hK.out _ _ (HZ.out _ (by (repeat' (first | exact Below.refl _ _ | assumption | refine b_alloc ?_ _ | refine b_over ?_ _ | refine b_drew ?_ | refine b_call ?_ (by assumption))))) (fun hHeld => ?_)
        clear hK K
        (try simp only [Act.put, List.getElem_toArray, List.getElem_cons_succ, List.getElem_cons_zero, List.setIfInBounds_toArray, List.set_cons_zero, List.set_cons_succ])
        (refine wpAnyH_take (i := 21) (v := ?_) rfl (by kernel_rfl) (by kernel_rfl) (by kernel_rfl) (fun _ _ _ h => h) (Or.inl ⟨by rfl, ?_⟩) hHeld ?_; rotate_left; (focus (intro w hSw; (try dsimp only at hSw); go_simp; try (with_reducible rfl))); (try simp only [Act.put, List.getElem_toArray, List.getElem_cons_succ, List.getElem_cons_zero, List.setIfInBounds_toArray, List.set_cons_zero, List.set_cons_succ]))
        (refine wpAnyH_take (i := 22) (v := ?_) rfl (by kernel_rfl) (by kernel_rfl) (by kernel_rfl) (fun _ _ _ h => h) (Or.inl ⟨by rfl, ?_⟩) hHeld ?_; rotate_left; (focus (intro w hSw; (try dsimp only at hSw); go_simp; try (with_reducible rfl))); (try simp only [Act.put, List.getElem_toArray, List.getElem_cons_succ, List.getElem_cons_zero, List.setIfInBounds_toArray, List.set_cons_zero, List.set_cons_succ]))
        refine wpAnyH_done (by kernel_rfl) ?_ _
        go_wp2
        go_ret
        exact ⟨rfl, b_call HB2.out (b_call HB92.out (by (repeat' (first | exact Below.refl _ _ | assumption | refine b_alloc ?_ _ | refine b_over ?_ _ | refine b_drew ?_ | refine b_call ?_ (by assumption)))))⟩
end Go.Proofs.Ytdhkemnebppkhaa
