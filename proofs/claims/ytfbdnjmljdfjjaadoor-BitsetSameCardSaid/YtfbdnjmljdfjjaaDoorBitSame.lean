/- BitsetSame's walk: for every two lists of truths the law returns true; old memory stands. Conditions: the library's table as it is laid. -/
import Derived.Test.YtfbdnjmljdfjjaaDoorBitGoes
import Derived.Deep.DeepCutAuto
import Derived.Deep.CutRange
namespace Go.Proofs.YtfbdnjmljdfjjaaDoor
open Go.RowKit
set_option linter.unusedVariables false
set_option linter.unusedSimpArgs false
attribute [local go_sem] over_cell over_frozen
def sameK (A B : List Bool) (k : Nat) : Bool := decide (A.length = B.length ∧ A.take k = B.take k)
theorem sameK_zero (A B : List Bool) : sameK A B 0 = decide (A.length = B.length) := by unfold sameK; simp
theorem sameK_all (A B : List Bool) : sameK A B A.length = decide (A = B) := by
  unfold sameK
  by_cases e : A = B
  · subst e; simp
  · rw [decide_eq_false e, decide_eq_false]
    rintro ⟨h1, h2⟩
    rw [List.take_of_length_le (Nat.le_refl _), h1, List.take_of_length_le (Nat.le_refl _)] at h2
    exact e h2
theorem sameK_step (A B : List Bool) (k : Nat) (hk : k < A.length) (h : sameK A B k = true) : k < B.length ∧ sameK A B (k + 1) = (A.getD k false == B.getD k false) := by
  unfold sameK at h
  rw [decide_eq_true_eq] at h
  obtain ⟨h1, h2⟩ := h
  have hb : k < B.length := by omega
  refine ⟨hb, ?_⟩
  unfold sameK
  have e1 : A.getD k false = A[k] := by rw [List.getD_eq_getElem?_getD, List.getElem?_eq_getElem hk]; rfl
  have e2 : B.getD k false = B[k] := by rw [List.getD_eq_getElem?_getD, List.getElem?_eq_getElem hb]; rfl
  rw [e1, e2, List.take_succ_eq_append_getElem hk, h2]
  by_cases q : A[k] = B[k]
  · rw [decide_eq_true ⟨h1, by rw [List.take_succ_eq_append_getElem hb, q]⟩, q]; simp
  · rw [decide_eq_false (by rintro ⟨_, h⟩; rw [List.take_succ_eq_append_getElem hb] at h; have := List.append_cancel_left h; injection this with this; exact q this)]
    exact (beq_eq_false_iff_ne.2 q).symm
theorem sameK_no (A B : List Bool) (k : Nat) (h : sameK A B k = false) : sameK A B (k + 1) = false := by
  unfold sameK at *
  rw [decide_eq_false_iff_not] at *
  rintro ⟨h1, h2⟩
  refine h ⟨h1, ?_⟩
  have e := congrArg (List.take k) h2
  rwa [List.take_take, List.take_take, Nat.min_eq_left (by omega)] at e
/-- What a list that came in has become. -/
def CutTo (w : World) (a : Option Addr) (cap : Nat) (L : List Bool) (v : Value) : Prop := ∃ m, v = .slice a m cap ∧ ReadR booE w (.slice a m cap) L ∧ L.length = m ∧ m ≤ 200 ∧ m ≤ cap ∧ cap ≤ 9223372036854775807
set_option maxRecDepth 100000 in
set_option maxHeartbeats 4000000 in
theorem bitsetSame_any (a : Option Addr) (na ca : Nat) (a' : Option Addr) (nb cb : Nat) (l l' : List Bool) {w : World} (hT : TabZ w) (hr : ReadR booE w (.slice a na ca) l) (hr' : ReadR booE w (.slice a' nb cb) l') : Calls Tryd.prog 4 #[.slice a na ca, .slice a' nb cb] w fun e w' => e = .returned (.bool true) ∧ Below w.heap.size w w' := by
  have HT := Lib.hid hT
  have HRA := Lib.hid hr
  have HRB := Lib.hid hr'
  obtain ⟨hla, hca, hma⟩ := readR_eq hr
  obtain ⟨hlb, hcb, hmb⟩ := readR_eq hr'
  have hcapa := cap_le hma
  have hcapb := cap_le hmb
  have HLA := Lib.hid hla
  have HLB := Lib.hid hlb
  clear hT hr hr' hla hlb hma hmb
  go_enter Tryd.func4, Tryd.ntmps4
  go_upto_if 14 with fail
  go_cut [0] (fun v wx => wx = w ∧ ∃ L, CutTo w a ca L v)
  case first =>
    by_cases q : 200 < na
    · have Q := Lib.hid (cut200 HRA.out q)
      have q2 : 200 ≤ ca := by omega
      go_wp2_with fail
      go_meet
      case rel => exact ⟨rfl, _, 200, rfl, Q.out.1, Q.out.2.1, by omega, by omega, hcapa⟩
    · go_wp2_with fail
      go_meet
      case rel => exact ⟨rfl, l, na, rfl, HRA.out, HLA.out, by omega, hca, hcapa⟩
  case rest =>
  obtain ⟨rfl, A, hA⟩ := hcut
  obtain ⟨ma, rfl, hA1, hA2, hA3, hA4, _⟩ := hA
  have RA := Lib.hid hA1
  have MA := Lib.hid hA2
  clear hA1 hA2
  go_upto_if 19 with fail
  go_cut [1] (fun v wx => wx = wc ∧ ∃ L, CutTo wc a' cb L v)
  case first =>
    by_cases q : 200 < nb
    · have Q := Lib.hid (cut200 HRB.out q)
      have q2 : 200 ≤ cb := by omega
      go_wp2_with fail
      go_meet
      case rel => exact ⟨rfl, _, 200, rfl, Q.out.1, Q.out.2.1, by omega, by omega, hcapb⟩
    · go_wp2_with fail
      go_meet
      case rel => exact ⟨rfl, l', nb, rfl, HRB.out, HLB.out, by omega, hcb, hcapb⟩
  case rest =>
  obtain ⟨hwx, B, hB⟩ := hcut
  subst hwx
  obtain ⟨mb, rfl, hB1, hB2, hB3, hB4, _⟩ := hB
  have RB := Lib.hid hB1
  have MB := Lib.hid hB2
  clear hB1 hB2
  go_wp2_with fail
  refine (bnew_any _ _).mono ?_
  rw [show bitN (ma : Int) = A.length by rw [MA.out]; exact bitN_nat (by omega), ← partL_zero]
  rintro e w1 ⟨s1, g1, c1, W1, rfl, x1, x2, x3, hb1⟩
  unfold sp
  go_wp2_with fail
  refine (bnew_any _ _).mono ?_
  rw [show bitN (mb : Int) = B.length by rw [MB.out]; exact bitN_nat (by omega), ← partL_zero]
  rintro e w2 ⟨s2, g2, c2, W2, rfl, y1, y2, y3, hb2⟩
  have hB2 := b_call hb1 hb2
  have x4 := x1.hd.1
  have x5 := x1.rw.1
  have X := Lib.hid (bit_below x1 hb2)
  have Y := Lib.hid y1
  have NE : Hid (g1 ≠ s2 ∧ g1 ≠ g2 ∧ s1 ≠ g2 ∧ wc.heap.size ≤ g1 ∧ wc.heap.size ≤ g2) := ⟨by omega, by omega, by omega, x3, by have := hb1.size; omega⟩
  have B0 : Hid (sameK A B 0 = (((ma : Nat) : Int) == ((mb : Nat) : Int))) := by
    show _ = _
    rw [sameK_zero, MA.out, MB.out]
    by_cases e : ma = mb
    · subst e; simp
    · rw [decide_eq_false e]; symm; rw [beq_eq_false_iff_ne]; omega
  clear x1 x2 x3 x4 x5 y1 y2 y3 hb1 hb2
  obtain ⟨b0, hb0⟩ : ∃ b0, b0 = (((ma : Nat) : Int) == ((mb : Nat) : Int)) := ⟨_, rfl⟩
  have T0 : (((ma : Nat) : Int) == ((mb : Nat) : Int)) = b0 := hb0.symm
  rw [T0] at B0
  clear hb0
  unfold sp
  go_wp2_with fail
  go_loopw [7, 35] (fun sm i wr => ∃ (k : Nat) (W : List Nat), k ≤ A.length ∧ i = .int .i64 k ∧ sm = .bool (sameK A B k) ∧ BitAt wr s1 g1 c1 W (partL A k) ∧ BitAt wr s2 g2 c2 W2 (partL B 0) ∧ Below wc.heap.size wc wr) (fun _ i _ => 200 - (intOf i).toNat)
  case atStart => exact ⟨0, W1, Nat.zero_le _, rfl, by rw [B0.out], X.out, Y.out, hB2⟩
  case round =>
    obtain ⟨k, W, hk, rfl, rfl, hx, hy, hbw⟩ := hrel
    by_cases hlt : k < A.length
    · obtain ⟨b, o, cp, e, _, _, hlb, hcell⟩ := boolR_pos RA.out (by omega)
      injection e with e1 e2 e3
      subst e1
      have d0 := hcell k hlt
      rw [← (bcell hbw).1 _ _ hlb] at d0
      have PS := Lib.hid (partL_step A k hlt)
      have hlm := hlt
      rw [MA.out] at hlm
      have k0 : (0 : Int) ≤ k := by omega
      have k1 : (k : Int) < 200 := by omega
      have k2 : k < ca := by omega
      have BP := Lib.hid (bput_any hx k (A.getD k false))
      have HY := Lib.hid hy
      cases hs : sameK A B k with
      | true =>
        obtain ⟨hkb, hst⟩ := sameK_step A B k hlt hs
        obtain ⟨b', o', cp', e', _, _, hlb', hcell'⟩ := boolR_pos RB.out (by omega)
        injection e' with e1' e2' e3'
        subst e1'
        have hl2 := Nat.lt_of_lt_of_le hlb' hbw.size
        have d1 := Lib.hid (hcell' k hkb)
        have ST := Lib.hid hst
        have hkb2 := hkb
        rw [MB.out] at hkb2
        have k3 : k < cb := by omega
        generalize A.getD k false = x at *
        generalize B.getD k false = y at *
        have HLB' := Lib.hid hlb'
        clear hcell hcell' e2 e3 e2' e3' hx hy hs hst hkb hl2
        unfold sp at *
        go_wp2_with fail
        refine BP.out.mono ?_
        rintro e w3 ⟨W3, rfl, hb3, hg3⟩
        rw [PS.out.1] at hb3
        have hB3 := b_grown hbw hg3 NE.out.2.2.2.1
        have hy3 := bit_grown HY.out hg3 (by have := NE.out; intro e; injection e with e; omega) (by have := NE.out; intro e; injection e with e; omega)
        have d2 : w3.cell? ⟨b', o' + k, none⟩ = some (.bool y) := by rw [(bcell hB3).1 _ _ HLB'.out]; exact d1.out
        have H3 := Lib.hid hb3
        have HY3 := Lib.hid hy3
        clear hg3 hb3 hy3
        go_wp2_with fail
        go_roundw
        case rel => exact ⟨k + 1, W3, by omega, by go_num, by rw [ST.out], H3.out, HY3.out, hB3⟩
        case measure => simp only [intOf]; omega
      | false =>
        have ST := Lib.hid (sameK_no A B k hs)
        generalize A.getD k false = x at *
        clear hcell e2 e3 hx hy hs
        unfold sp at *
        go_wp2_with fail
        refine BP.out.mono ?_
        rintro e w3 ⟨W3, rfl, hb3, hg3⟩
        rw [PS.out.1] at hb3
        have hB3 := b_grown hbw hg3 NE.out.2.2.2.1
        have hy3 := bit_grown HY.out hg3 (by have := NE.out; intro e; injection e with e; omega) (by have := NE.out; intro e; injection e with e; omega)
        have H3 := Lib.hid hb3
        have HY3 := Lib.hid hy3
        clear hg3 hb3 hy3
        go_wp2_with fail
        go_roundw
        case rel => exact ⟨k + 1, W3, by omega, by go_num, by rw [ST.out], H3.out, HY3.out, hB3⟩
        case measure => simp only [intOf]; omega
    · have e : k = A.length := by omega
      subst e
      rw [partL_all] at hx
      rw [sameK_all, MA.out]
      have HX := Lib.hid hx
      have HY := Lib.hid hy
      clear hx hy hlt hk X Y hB2
      obtain ⟨wv, hwv⟩ : ∃ x, x = wr := ⟨_, rfl⟩
      subst hwv
      obtain ⟨bb, hbb⟩ : ∃ bb, bb = decide (A = B) := ⟨_, rfl⟩
      rw [← hbb]
      have HBB := Lib.hid hbb
      clear hbb
      go_wp2_with fail
      go_loopw [56] (fun i wr => ∃ (k : Nat) (V : List Nat), k ≤ B.length ∧ i = .int .i64 k ∧ BitAt wr s1 g1 c1 W A ∧ BitAt wr s2 g2 c2 V (partL B k) ∧ Below wc.heap.size wc wr) (fun i _ => 200 - (intOf i).toNat)
      case atStart => exact ⟨0, W2, Nat.zero_le _, rfl, HX.out, HY.out, hbw⟩
      case round =>
        obtain ⟨k, V, hk, rfl, hx, hy, hbx⟩ := hrel
        have HX2 := Lib.hid hx
        by_cases hlt : k < B.length
        · obtain ⟨b, o, cp, e, _, _, hlb, hcell⟩ := boolR_pos RB.out (by omega)
          injection e with e1 e2 e3
          subst e1
          have d0 := hcell k hlt
          rw [← (bcell hbx).1 _ _ hlb] at d0
          have PS := Lib.hid (partL_step B k hlt)
          have hlm := hlt
          rw [MB.out] at hlm
          have k0 : (0 : Int) ≤ k := by omega
          have k1 : (k : Int) < 200 := by omega
          have k2 : k < cb := by omega
          have BP := Lib.hid (bput_any hy k (B.getD k false))
          generalize B.getD k false = x at *
          clear hcell e2 e3 hx hy
          unfold sp at *
          go_wp2_with fail
          refine BP.out.mono ?_
          rintro e w3 ⟨W3, rfl, hb3, hg3⟩
          rw [PS.out.1] at hb3
          have hB3 := b_grown hbx hg3 NE.out.2.2.2.2
          have hx3 := bit_grown HX2.out hg3 (by have := NE.out; intro e; injection e with e; omega) (by have := NE.out; intro e; injection e with e; omega)
          have H3 := Lib.hid hb3
          have HX3 := Lib.hid hx3
          clear hg3 hb3 hx3
          go_wp2_with fail
          go_roundw
          case rel => exact ⟨k + 1, W3, by omega, by go_num, HX3.out, H3.out, hB3⟩
          case measure => simp only [intOf]; omega
        · have e : k = B.length := by omega
          subst e
          rw [partL_all] at hy
          rw [MB.out]
          have HY2 := Lib.hid hy
          have HTX := Lib.hid (tabZ_below HT.out hbx)
          have t1 : (bb == bb) = true := by simp
          clear hx hy hlt hk
          go_wp2_with fail
          refine (bsame_any (sameV_bit HX2.out HTX.out) (sameV_bit HY2.out HTX.out)).mono ?_
          rw [← HBB.out]
          rintro e w5 ⟨rfl, hb5⟩
          go_wp2_with fail
          refine (bsame_any (sameV_bit (bit_below HX2.out hb5) (tabZ_below HTX.out hb5)) (sameV_bit (bit_below HX2.out hb5) (tabZ_below HTX.out hb5))).mono ?_
          rw [decide_eq_true (rfl : A = A)]
          rintro e w6 ⟨rfl, hb6⟩
          have HB6 := b_call (b_call hbx hb5) hb6
          go_wp2_with fail
          refine (awake02 (tabZ_below HT.out HB6)).mono ?_
          rintro e w7 ⟨rfl, hb7⟩
          go_wp2_with fail
          go_ret
          exact ⟨rfl, b_call HB6 hb7⟩
end Go.Proofs.YtfbdnjmljdfjjaaDoor
