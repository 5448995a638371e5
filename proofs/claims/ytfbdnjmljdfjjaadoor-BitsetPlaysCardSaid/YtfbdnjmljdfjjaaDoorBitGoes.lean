/- BitsetGoes' walk: for every list of truths the law returns true; old memory stands. Conditions: the library's table as it is laid. -/
import Derived.Test.YtfbdnjmljdfjjaaDoorBit5
namespace Go.Proofs.YtfbdnjmljdfjjaaDoor
open Go.RowKit
set_option linter.unusedVariables false
set_option linter.unusedSimpArgs false
attribute [local go_sem] over_cell over_frozen
theorem bitN_nat {n : Nat} (h : n ≤ 65536) : bitN (n : Int) = n := by unfold bitN; rw [if_neg (by omega), if_neg (by omega)]; omega
/-- So many of a list's truths, the rest false. -/
def partL (l : List Bool) (k : Nat) : List Bool := l.take k ++ List.replicate (l.length - k) false
theorem partL_zero (l : List Bool) : partL l 0 = List.replicate l.length false := by unfold partL; simp
theorem partL_all (l : List Bool) : partL l l.length = l := by unfold partL; simp
theorem partL_len (l : List Bool) (k : Nat) (h : k ≤ l.length) : (partL l k).length = l.length := by unfold partL; simp; omega
theorem partL_step (l : List Bool) (k : Nat) (h : k < l.length) : putL (partL l k) (k : Int) (l.getD k false) = partL l (k + 1) ∧ putE (partL l k) (k : Int) = 0 := by
  have hl := partL_len l k (by omega)
  unfold putL putE
  rw [if_pos (by omega), if_pos (by omega), Int.toNat_natCast]
  refine ⟨?_, rfl⟩
  unfold partL
  rw [List.set_append_right _ _ (by simp; omega), List.length_take, Nat.min_eq_left (by omega), Nat.sub_self, show l.length - k = (l.length - (k + 1)) + 1 by omega, List.replicate_succ, List.set_cons_zero, List.take_succ_eq_append_getElem h, List.append_assoc]
  rw [List.getD_eq_getElem?_getD, List.getElem?_eq_getElem h]; rfl
/-- What a list that came in becomes: at most 200 of it. -/
theorem cut200 {w : World} {a : Option Addr} {n cap : Nat} {l : List Bool} (h : ReadR booE w (.slice a n cap) l) (hn : 200 < n) : ReadR booE w (.slice a 200 cap) (l.take 200) ∧ (l.take 200).length = 200 ∧ 200 < cap := by
  have h' := h
  obtain ⟨a', c', e, h1, h2, _⟩ := h'
  have e1 : n = l.length := by injection e
  have e2 : cap = c' := by injection e
  exact ⟨readR_take h (by omega), by rw [List.length_take]; omega, by omega⟩
theorem readR_eq {w : World} {a : Option Addr} {n cap : Nat} {l : List Bool} (h : ReadR booE w (.slice a n cap) l) : l.length = n ∧ n ≤ cap ∧ cap ≤ maxLen := by
  obtain ⟨a', c', e, h1, h2, _⟩ := h
  have e1 : n = l.length := by injection e
  have e2 : cap = c' := by injection e
  subst e1 e2
  exact ⟨rfl, h1, h2⟩
set_option maxRecDepth 100000 in
set_option maxHeartbeats 2000000 in
theorem bitsetGoes_any (a : Option Addr) (n0 cap0 : Nat) (l : List Bool) (v : Bool) {w : World} (hT : TabZ w) (hr : ReadR booE w (.slice a n0 cap0) l) : Calls Tryd.prog 3 #[.slice a n0 cap0, .bool v] w fun e w' => e = .returned (.bool true) ∧ Below w.heap.size w w' := by
  have HT := Lib.hid hT
  obtain ⟨hl0, hc0, hm0⟩ := readR_eq hr
  have hcap := cap_le hm0
  have HRN : ∃ (m : Nat) (L : List Bool), ((200 < n0 ∧ m = 200) ∨ (n0 ≤ 200 ∧ m = n0)) ∧ ReadR booE w (.slice a m cap0) L ∧ L.length = m ∧ m ≤ 200 := by
    by_cases q : 200 < n0
    · obtain ⟨q1, q2, q3⟩ := cut200 hr q
      exact ⟨200, _, Or.inl ⟨q, rfl⟩, q1, q2, Nat.le_refl _⟩
    · exact ⟨n0, l, Or.inr ⟨by omega, rfl⟩, hr, hl0, by omega⟩
  obtain ⟨m, L, hcase, hrL, hm, hm2⟩ := HRN
  have HR := Lib.hid hrL
  have HM := Lib.hid hm
  clear hT hr hl0 hrL hm hm0
  rcases hcase with ⟨hgt, rfl⟩ | ⟨hle, rfl⟩
  all_goals
    have N1 := Lib.hid (fun z (hz : z = L.length) (w : World) => bnew_any ((z : Nat) : Int) w)
    go_enter Tryd.func3, Tryd.ntmps3
    go_wp2_with fail
    refine (bnew_any _ _).mono ?_
    first | rw [show bitN (200 : Int) = L.length by rw [HM.out]; rfl, ← partL_zero] | rw [show bitN (m : Int) = L.length by rw [HM.out]; exact bitN_nat (by omega), ← partL_zero]
    rintro e w1 ⟨s, g, cap, W, rfl, hb, hs, hg, hb1⟩
    have HB := Lib.hid hb
    have HG := Lib.hid hg
    clear hb hs hg N1
    unfold sp
    go_wp2_with fail
    go_loopw [25] (fun i wr => ∃ (k : Nat) (W : List Nat), k ≤ L.length ∧ i = .int .i64 k ∧ BitAt wr s g cap W (partL L k) ∧ Below w.heap.size w wr) (fun i _ => 200 - (intOf i).toNat)
    case atStart => exact ⟨0, W, Nat.zero_le _, rfl, HB.out, hb1⟩
    case round =>
      obtain ⟨k, W, hk, rfl, hbit, hbw⟩ := hrel
      have hkm := hk
      rw [HM.out] at hkm
      by_cases hlt : k < L.length
      · obtain ⟨b, o, cp, e, _, _, hlb, hcell⟩ := boolR_pos HR.out (by omega)
        injection e with e1 e2 e3
        subst e1
        have d0 := hcell k hlt
        rw [← (bcell hbw).1 _ _ hlb] at d0
        have PS := Lib.hid (partL_step L k hlt)
        have hlm := hlt
        rw [HM.out] at hlm
        have k0 : (0 : Int) ≤ k := by omega
        have k1 : (k : Int) < 200 := by omega
        have k2 : k < cap0 := by omega
        have BP := Lib.hid (bput_any hbit k (L.getD k false))
        generalize L.getD k false = x at *
        clear hcell e2 e3 hbit hkm
        unfold sp at *
        go_wp2_with fail
        refine BP.out.mono ?_
        rintro e w2 ⟨W2, rfl, hb2, hg2⟩
        rw [PS.out.1] at hb2
        have hB2 := b_grown hbw hg2 HG.out
        clear hg2
        go_wp2_with fail
        go_roundw
        case rel => exact ⟨k + 1, W2, by omega, by go_num, hb2, hB2⟩
        case measure => simp only [intOf]; omega
      · have e : k = L.length := by omega
        subst e
        rw [partL_all] at hbit
        rw [HM.out]
        try rw [show ((200 : Nat) : Int) = 200 from rfl]
        have HBW := Lib.hid hbw
        have HBT := Lib.hid hbit
        have HTW := Lib.hid (tabZ_below HT.out hbw)
        clear hbit hlt hk hkm hbw
        obtain ⟨wv, hwv⟩ : ∃ x, x = wr := ⟨_, rfl⟩
        subst hwv
        go_wp2_with fail
        go_loopw [8, 37] (fun ft i w3 => ∃ (k f : Nat), k ≤ L.length ∧ f ≤ k ∧ i = .int .i64 k ∧ ft = .int .i64 f ∧ Hid (∀ j, f ≤ j → j < k → L.getD j false ≠ v) ∧ Below wv.heap.size wv w3) (fun _ i _ => 200 - (intOf i).toNat)
        case atStart => exact ⟨0, 0, Nat.zero_le _, Nat.le_refl _, rfl, rfl, fun j _ h => by omega, Below.refl _ _⟩
        case round =>
          obtain ⟨k, f, hk, hfk, rfl, rfl, hall, hbx⟩ := hrel
          have hbxl := bcell hbx
          have f0 : (0 : Int) ≤ f := by omega
          by_cases hlt : k < L.length
          · obtain ⟨b, o, cp, e, _, _, hlb, hcell⟩ := boolR_pos (readR_below HR.out HBW.out) (by omega)
            injection e with e1 e2 e3
            subst e1
            have d0 := hcell k hlt
            rw [← hbxl.1 _ _ hlb] at d0
            have hlm := hlt
            rw [HM.out] at hlm
            have k0 : (0 : Int) ≤ k := by omega
            have k1 : (k : Int) < 200 := by omega
            have k2 : k < cap0 := by omega
            obtain ⟨x, hx⟩ : ∃ x, x = L.getD k false := ⟨_, rfl⟩
            rw [← hx] at d0
            have HX := Lib.hid hx
            clear hcell e2 e3 hx hbxl
            by_cases hxv : x = v
            · have HXV := Lib.hid hxv
              have t1 : (!(x == v)) = false := by rw [hxv]; simp
              have EN : nextO L v ((f : Int)).toNat = some k := by
                rw [Int.toNat_natCast]
                exact nextO_some.2 ⟨hfk, hlt, by rw [← HX.out]; exact hxv, hall.out⟩
              have BN := Lib.hid (bnext_any (bit_below HBT.out hbx) (tabZ_below HTW.out hbx) f v)
              unfold NextE at BN
              rw [EN] at BN
              clear hxv EN hall hfk
              unfold sp at BN
              go_wp2_with fail
              refine BN.out.mono ?_
              rintro e w4 ⟨rfl, hb4⟩
              go_wp2_with fail
              go_roundw
              case rel => exact ⟨k + 1, k + 1, by omega, Nat.le_refl _, by go_num, by go_num, fun j _ h => by omega, b_call hbx hb4⟩
              case measure => simp only [intOf]; omega
            · have HXV := Lib.hid hxv
              have t1 : (!(x == v)) = true := by simpa using hxv
              clear hxv
              go_wp2_with fail
              go_roundw
              case rel => exact ⟨k + 1, f, by omega, by omega, by go_num, rfl, fun j a c => by
                rcases Nat.lt_or_ge j k with q | q
                · exact hall.out j a q
                · have e : j = k := by omega
                  rw [e, ← HX.out]; exact HXV.out, hbx⟩
              case measure => simp only [intOf]; omega
          · have e : k = L.length := by omega
            subst e
            have EN : nextO L v ((f : Int)).toNat = none := by
              rw [Int.toNat_natCast]
              exact nextO_none.2 (fun j a c => hall.out j a c)
            have BN := Lib.hid (bnext_any (bit_below HBT.out hbx) (tabZ_below HTW.out hbx) f v)
            unfold NextE at BN
            rw [EN] at BN
            rw [HM.out]
            have HBX := Lib.hid hbx
            clear EN hall hfk hlt hk hbxl
            unfold sp at BN
            go_wp2_with fail
            refine BN.out.mono ?_
            rintro e w4 ⟨rfl, hb4⟩
            have HB4 := b_call (b_call HBW.out hbx) hb4
            go_wp2_with fail
            refine (awake02 (tabZ_below HT.out HB4)).mono ?_
            rintro e w5 ⟨rfl, hb5⟩
            go_wp2_with fail
            go_ret
            exact ⟨rfl, b_call HB4 hb5⟩
end Go.Proofs.YtfbdnjmljdfjjaaDoor
