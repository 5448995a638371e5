/- Layer 17's 'step', the arm of kind 9 (Refs). Conditions: an arena and the document's row, alike. -/
import Derived.Test.YtgbbnmjfkhconaaObjT0
namespace Go.Proofs.Ytgbbnmjfkhconaa
open Go.RowKit
set_option linter.unusedVariables false
set_option linter.unusedSimpArgs false
attribute [local go_sem] over_cell over_frozen
set_option maxRecDepth 100000 in
set_option maxHeartbeats 4000000 in
theorem step17_k9 {w wr : World} {b g cap gr cr : Nat} {L : List Int} (P : PlO w wr b g cap gr cr L) (a f t v r n : Int) (hv : 0 ≤ v ∧ v < 18446744073709551616) (ht : -9223372036854775808 ≤ t ∧ t ≤ 9223372036854775807) : Calls Try.prog 49 #[tp b, rowV gr L cr, opV 9 a f t v r n] wr (StepRet w b g cap L.length) := by
  have BX : Blk (wr.alloc (.cells #[.int .i64 9, .int .i64 a, .int .i64 f, .int .i64 t, .int .u64 v, .int .i64 r, .int .i64 n] 78)) wr.heap.size [.int .i64 9, .int .i64 a, .int .i64 f, .int .i64 t, .int .u64 v, .int .i64 r, .int .i64 n] := blk_new _ _ _
  have PX := plo_below P (b_alloc (Below.refl wr.heap.size wr) (.cells #[.int .i64 9, .int .i64 a, .int .i64 f, .int .i64 t, .int .u64 v, .int .i64 r, .int .i64 n] 78))
  have HXN : Hid (wr.heap.size ≠ b ∧ wr.heap.size ≠ g ∧ wr.heap.size ≠ gr) := by
    have q1 := P.a.hd.1
    have q2 := P.a.rw.1
    have q3 := P.r.rw.1
    exact ⟨by omega, by omega, by omega⟩
  have HBX := Lib.hid BX
  have HPX := Lib.hid PX
  have hmx := P.a.mx
  clear BX PX
  have HRS := Lib.hid (orefs_any HPX.out.a a)
  have HRH := Lib.hid (fun (w1 : World) (h1 : RowAt w1 gr cr L) => rhead_any h1 a)
  have HFD := Lib.hid (fun (w1 : World) (h1 : RowAt w1 gr cr L) (k : Nat) => rfield_any h1 a k false)
  have hR : ∃ R : Nat, headR L a = R ∧ (R : Int) ≤ 15 ∧ (0 < R → headE L a = 0) := by
    by_cases h0 : headE L a = 0
    · obtain ⟨_, _, _, x1, x2, x3, _⟩ := head_facts h0
      exact ⟨(headR L a).toNat, by omega, by omega, fun _ => h0⟩
    · have e1 : headR L a = 0 := by
        unfold headR
        by_cases hq : hdOk L a = true
        · exfalso
          have hw := (of_decide_eq_true hq).1
          unfold headE at h0
          rw [if_pos hw, if_pos hq] at h0
          exact h0 rfl
        · rw [if_neg hq]
      exact ⟨0, e1, by decide, fun h => absurd h (by decide)⟩
  obtain ⟨R, hR, hR15, hR0⟩ := hR
  have HFE := Lib.hid (fun (k : Nat) (hk : k < R) => (show fldE L a k false = 0 by
    rcases fld_cases L a k false with ⟨q, _⟩ | ⟨_, q, _⟩ | ⟨_, _, _, q, _⟩
    · exact absurd (hR0 (by omega)) q
    · exfalso; apply q; show 0 ≤ (k : Int) ∧ (k : Int) < headR L a; omega
    · exact q))
  have HGT := Lib.hid (fun (w1 : World) (h1 : RowAt w1 gr cr L) (p : Nat) (hp : p + 8 ≤ L.length) => rnget_any (.slice (some ⟨gr, p, none⟩) 8 (cr - p)) ((L.drop p).take 8) w1 (readB_sub h1.rw h1.le h1.cp hp (fun _ => rfl) rfl (by intro e; cases e)) (isBytes_take (isBytes_drop h1.by_ p) 8) (by rw [List.length_take]; omega))
  have hcr := cap_le P.r.cp
  have hlc := P.r.le
  have HBYL := Lib.hid P.r.by_
  rw [hR] at HRS HRH
  rw [Int.toNat_natCast] at HRS
  generalize headN L a = hn at *
  generalize headE L a = E at *
  have R0 : (0 : Int) ≤ R := by omega
  unfold shp tp rowV opV at *
  clear P hv ht hR hR0
  go_enter Try.func49, Try.ntmps49
  go_wp2_with fail
  refine HRS.out.mono ?_
  rintro e w2 ⟨l2, rfl, own2, hb2⟩
  have HP2 := Lib.hid (plo_below HPX.out hb2)
  have HBX2 := Lib.hid (blk_below HBX.out hb2)
  have HRD2 := Lib.hid (ownR_read own2)
  obtain ⟨la, lc, rfl, _, hlm⟩ := readR_len (ownR_read own2)
  obtain ⟨z0, z1, z2, z3, z4, z5, z6, zf⟩ := o_blk7 HBX2.out
  rw [refsL_len]
  rw [refsL_len] at HRD2
  clear own2 hb2
  go_wp2_with fail
  refine (HRH.out _ HP2.out.r).mono ?_
  rintro e w3 ⟨rfl, hb3⟩
  have HP3 := Lib.hid (plo_below HP2.out (b_call hb3 (b_alloc (Below.refl _ w3) (.cells #[.int .i64 R, .int .i64 hn] 23))))
  have HBX3 := Lib.hid (blk_below HBX2.out (b_call hb3 (b_alloc (Below.refl _ w3) (.cells #[.int .i64 R, .int .i64 hn] 23))))
  have HRD3 := Lib.hid (readR_below HRD2.out (b_call hb3 (b_alloc (Below.refl _ w3) (.cells #[.int .i64 R, .int .i64 hn] 23))))
  clear hb3 z0 z1 z2 z3 z4 z5 z6 zf
  go_wp2_with fail
  obtain ⟨W0, hW0⟩ : ∃ x, x = wr := ⟨_, rfl⟩
  subst hW0
  go_loopw [266] (fun i wx => ∃ k : Nat, i = .int .i64 k ∧ k ≤ R ∧ Hid (PlO w wx b g cap gr cr L) ∧ Hid (ReadR i64E wx (.slice la R lc) (refsL L a R)) ∧ Hid (Blk wx W0.heap.size [.int .i64 9, .int .i64 a, .int .i64 f, .int .i64 t, .int .u64 v, .int .i64 r, .int .i64 n])) (fun i _ => R - (intOf i).toNat)
  case atStart => exact ⟨0, rfl, Nat.zero_le _, HP3.out, HRD3.out, HBX3.out⟩
  case round =>
    obtain ⟨k, rfl, hk, HPk, HRk, HBk⟩ := hrel
    have k0 : (0 : Int) ≤ k := by omega
    by_cases hlt : k < R
    · have k1 : (k : Int) < R := by omega
      obtain ⟨z0, z1, z2, z3, z4, z5, z6, zf⟩ := o_blk7 HBk.out
      have hzl := HBk.out.1
      have hfe := HFE.out k hlt
      obtain ⟨p, e1, h1, h2, h3⟩ := fld_word hfe
      obtain ⟨la', lc', hq, _, _, _, h4⟩ := HRk.out
      injection hq with i1 i2 i3
      subst i1
      subst i3
      clear i2
      obtain ⟨bl, off, rfl, hbl, h4⟩ := h4 (by rw [refsL_len]; omega)
      have d0 : wr.cell? ⟨bl, off + k, none⟩ = some (Value.int .i64 (refV L a k)) := by
        have q := h4 k (by rw [refsL_len]; exact hlt) 0 (by decide)
        have e9 : (refsL L a R)[k]'(by rw [refsL_len]; exact hlt) = refV L a k := by unfold refsL; rw [List.getElem_map, List.getElem_range]
        rw [e9, show k * i64E.size + 0 = k by show k * 1 + 0 = k; omega] at q
        exact q
      have e2 : refV L a k = refI (getW L p) := by unfold refV; rw [if_pos hfe, e1, Int.toNat_natCast]
      have hG : getL ((L.drop p).take 8) = getW L p := rfl
      have hG2 : getL (((L.drop p).take 8).take 8) = getW L p := by rw [List.take_take]; rfl
      have HX := Lib.hid (HFD.out _ HPk.out.r k)
      have HY := Lib.hid (fun (w1 : World) (h1 : RowAt w1 gr cr L) => HGT.out w1 h1 p h2)
      rw [hfe, e1] at HX
      simp only [hG, hG2] at HY
      rw [e2] at d0
      have hb := getW_lt HBYL.out p
      generalize getW L p = W at *
      unfold refI at d0
      have p0 : (0 : Int) ≤ p := by omega
      have p1 : (p : Int) + 8 ≤ L.length := by omega
      have p2 : (p : Int) + 8 ≤ cr := by omega
      have p3 : (p : Int) ≤ 65528 := by omega
      have HLT := Lib.hid hlt
      clear hlt hfe e1 e2 h1 h2 h3 h4 hG hG2
      obtain ⟨W1, hW1⟩ : ∃ x, x = wr := ⟨_, rfl⟩
      subst hW1
      go_wp2_with fail
      refine HX.out.mono ?_
      rintro e w5 ⟨rfl, hb5⟩
      have HP5 := Lib.hid (plo_below HPk.out hb5)
      have HR5 := Lib.hid (readR_below HRk.out hb5)
      have HB5 := Lib.hid (blk_below HBk.out hb5)
      clear hb5 d0 z0 z1 z2 z3 z4 z5 z6 zf
      go_wp2_with fail
      refine (HY.out _ HP5.out.r).mono ?_
      rintro e w6 ⟨rfl, rfl⟩
      go_wp2_with fail
      exact ⟨⟨k + 1, by go_num, HLT.out, HP5.out, HR5.out, HB5.out⟩, by simp only [intOf]; have := HLT.out; omega⟩
    · have e : k = R := by omega
      subst e
      go_wp2_with fail
      go_ret2
      exact ⟨gr, cr, _, by first | rfl | (simp only [beq_self_eq_true]; rfl), HPk.out, rfl⟩
end Go.Proofs.Ytgbbnmjfkhconaa
