/- Layer 17's 'step', the arm of kind 4, 5 (SetRef). Conditions: an arena and the document's row, alike. -/
import Derived.Test.YtgbbnmjfkhconaaObjT0
namespace Go.Proofs.Ytgbbnmjfkhconaa
open Go.RowKit
set_option linter.unusedVariables false
set_option linter.unusedSimpArgs false
attribute [local go_sem] over_cell over_frozen
set_option maxRecDepth 100000 in
set_option maxHeartbeats 4000000 in
theorem step17_k4 {w wr : World} {b g cap gr cr : Nat} {L : List Int} (P : PlO w wr b g cap gr cr L) (a f t v r n : Int) (hv : 0 ≤ v ∧ v < 18446744073709551616) (ht : -9223372036854775808 ≤ t ∧ t ≤ 9223372036854775807) : Calls Try.prog 49 #[tp b, rowV gr L cr, opV 4 a f t v r n] wr (StepRet w b g cap L.length) := by
  have BX : Blk (wr.alloc (.cells #[.int .i64 4, .int .i64 a, .int .i64 f, .int .i64 t, .int .u64 v, .int .i64 r, .int .i64 n] 78)) wr.heap.size [.int .i64 4, .int .i64 a, .int .i64 f, .int .i64 t, .int .u64 v, .int .i64 r, .int .i64 n] := blk_new _ _ _
  have PX := plo_below P (b_alloc (Below.refl wr.heap.size wr) (.cells #[.int .i64 4, .int .i64 a, .int .i64 f, .int .i64 t, .int .u64 v, .int .i64 r, .int .i64 n] 78))
  have HXN : Hid (wr.heap.size ≠ b ∧ wr.heap.size ≠ g ∧ wr.heap.size ≠ gr) := by
    have q1 := P.a.hd.1
    have q2 := P.a.rw.1
    have q3 := P.r.rw.1
    exact ⟨by omega, by omega, by omega⟩
  have HBX := Lib.hid BX
  have HPX := Lib.hid PX
  have hmx := P.a.mx
  clear BX PX
  have HFD := Lib.hid (rfield_any HPX.out.r a f false)
  have HSR := Lib.hid (fun (w1 : World) (h1 : AreAt w1 b g cap L) => osetref_any h1 a f t)
  unfold tp rowV opV at *
  by_cases h0 : fldE L a f false = 0
  case neg =>
    have e1 : srE L a f t = fldE L a f false := by unfold srE; rw [if_neg h0]
    have e2 : srL L a f t = L := by unfold srL; rw [e1, if_neg h0]
    rw [e1, e2] at HSR
    generalize fldE L a f false = E at *
    generalize fldP L a f false = X at *
    clear e1 e2 P hv ht
    go_enter Try.func49, Try.ntmps49
    go_wp2_with fail
    refine HFD.out.mono ?_
    rintro e w2 ⟨rfl, hb2⟩
    have HP2 := Lib.hid (plo_below HPX.out hb2)
    obtain ⟨z0, z1, z2, z3, z4, z5, z6, zf⟩ := o_blk7 (blk_below HBX.out hb2)
    clear hb2
    go_wp2_with fail
    refine (HSR.out _ HP2.out.a).mono ?_
    rintro e w3 ⟨rfl, A3, G3⟩
    have HP3 := Lib.hid (plo_same HP2.out G3 A3)
    clear A3 G3 z0 z1 z2 z3 z4 z5 z6 zf
    go_wp2_with fail
    go_ret2
    exact ⟨gr, cr, _, by first | rfl | (simp only [beq_self_eq_true]; rfl), HP3.out, rfl⟩
  case pos =>
    rcases (show t < -1 ∨ (-1 ≤ t ∧ 2147483647 < t) ∨ (-1 ≤ t ∧ t ≤ 2147483647) by omega) with q | ⟨q1, q⟩ | ⟨q1, q⟩
    case inr.inr =>
      obtain ⟨p, e3, h1, h2, h3⟩ := fld_word h0
      have e1 : srE L a f t = 0 := by unfold srE; rw [if_pos h0, if_neg (by omega)]
      have e2 : srL L a f t = lay L p (putL 8 (t + 1)) := by
        unfold srL; rw [if_pos e1, setW_ok h3, e3, Int.toNat_natCast]
      have HPUT := Lib.hid (fun w => rnput_any 8 (t + 1) w (by decide) (by omega) (by omega))
      have HWI := Lib.hid (fun (w1 : World) (R : RowAt w1 gr cr L) u hu => r3with_any R p u (putL 8 (t + 1)) hu (isBytes_putL _ _) (by rw [putL_length]; exact h2))
      have HLL : Hid ((lay L p (putL 8 (t + 1))).length = L.length) := lay_length (by rw [putL_length]; exact h2)
      rw [e1, e2] at HSR
      rw [e3, h0] at HFD
      generalize lay L p (putL 8 (t + 1)) = M at *
      generalize putL 8 (t + 1) = PV at *
      unfold rowV at HWI
      clear e1 e2 e3 h0 h1 h2 h3 P hv ht
      go_enter Try.func49, Try.ntmps49
      go_wp2_with fail
      refine HFD.out.mono ?_
      rintro e w2 ⟨rfl, hb2⟩
      have HP2 := Lib.hid (plo_below HPX.out hb2)
      have HB2 := Lib.hid (blk_below HBX.out hb2)
      obtain ⟨z0, z1, z2, z3, z4, z5, z6, zf⟩ := o_blk7 HB2.out
      clear hb2
      go_wp2_with fail
      refine (HSR.out _ HP2.out.a).mono ?_
      rintro e w3 ⟨rfl, A3, G3⟩
      have HA3 := Lib.hid A3
      have HG3 := Lib.hid G3
      have HR3 := Lib.hid (row_grown HP2.out.r G3 (by intro e; injection e with e; exact HP2.out.ng e.symm))
      clear z0 z1 z2 z3 z4 z5 z6 zf
      obtain ⟨z0, z1, z2, z3, z4, z5, z6, zf⟩ := o_blk7 (blk_grown HB2.out G3 (by intro e; injection e with e; exact HXN.out.2.1 e))
      clear A3 G3
      go_wp2_with fail
      refine (HPUT.out _).mono ?_
      rintro e w4 ⟨v4, rfl, own4, hb4⟩
      have HB4 := Lib.hid hb4
      have HO4 := Lib.hid (ownB_read own4)
      clear hb4 own4 z0 z1 z2 z3 z4 z5 z6 zf
      go_wp2_with fail
      refine (HWI.out _ (row_below HR3.out HB4.out) v4 HO4.out).mono ?_
      rintro e w5 ⟨g5, c5, rfl, R5, hg5, hb5⟩
      have HP5 := Lib.hid (plo_new HP2.out HG3.out HA3.out (b_call HB4.out hb5) R5 (by have := HB4.out.size; omega))
      clear R5 hg5 hb5
      unfold rowV
      go_wp2_with fail
      go_ret2
      exact ⟨g5, c5, _, by first | rfl | (simp only [beq_self_eq_true]; rfl), HP5.out, HLL.out⟩
    all_goals
      have e1 : srE L a f t = 1 := by unfold srE; rw [if_pos h0, if_pos (by omega)]
      have e2 : srL L a f t = L := by unfold srL; rw [e1, if_neg (by decide)]
      rw [e1, e2] at HSR
      rw [h0] at HFD
      generalize fldP L a f false = X at *
      clear e1 e2 h0 P hv ht
      go_enter Try.func49, Try.ntmps49
      go_wp2_with fail
      refine HFD.out.mono ?_
      rintro e w2 ⟨rfl, hb2⟩
      have HP2 := Lib.hid (plo_below HPX.out hb2)
      have HB2 := Lib.hid (blk_below HBX.out hb2)
      obtain ⟨z0, z1, z2, z3, z4, z5, z6, zf⟩ := o_blk7 HB2.out
      clear hb2
      go_wp2_with fail
      refine (HSR.out _ HP2.out.a).mono ?_
      rintro e w3 ⟨rfl, A3, G3⟩
      have HP3 := Lib.hid (plo_same HP2.out G3 A3)
      clear z0 z1 z2 z3 z4 z5 z6 zf
      obtain ⟨z0, z1, z2, z3, z4, z5, z6, zf⟩ := o_blk7 (blk_grown HB2.out G3 (by intro e; injection e with e; exact HXN.out.2.1 e))
      clear A3 G3
      go_wp2_with fail
      go_ret2
      exact ⟨gr, cr, _, by first | rfl | (simp only [beq_self_eq_true]; rfl), HP3.out, rfl⟩
set_option maxRecDepth 100000 in
set_option maxHeartbeats 4000000 in
theorem step17_k5 {w wr : World} {b g cap gr cr : Nat} {L : List Int} (P : PlO w wr b g cap gr cr L) (a f t v r n : Int) (hv : 0 ≤ v ∧ v < 18446744073709551616) (ht : -9223372036854775808 ≤ t ∧ t ≤ 9223372036854775807) : Calls Try.prog 49 #[tp b, rowV gr L cr, opV 5 a f t v r n] wr (StepRet w b g cap L.length) := by
  have BX : Blk (wr.alloc (.cells #[.int .i64 5, .int .i64 a, .int .i64 f, .int .i64 t, .int .u64 v, .int .i64 r, .int .i64 n] 78)) wr.heap.size [.int .i64 5, .int .i64 a, .int .i64 f, .int .i64 t, .int .u64 v, .int .i64 r, .int .i64 n] := blk_new _ _ _
  have PX := plo_below P (b_alloc (Below.refl wr.heap.size wr) (.cells #[.int .i64 5, .int .i64 a, .int .i64 f, .int .i64 t, .int .u64 v, .int .i64 r, .int .i64 n] 78))
  have HXN : Hid (wr.heap.size ≠ b ∧ wr.heap.size ≠ g ∧ wr.heap.size ≠ gr) := by
    have q1 := P.a.hd.1
    have q2 := P.a.rw.1
    have q3 := P.r.rw.1
    exact ⟨by omega, by omega, by omega⟩
  have HBX := Lib.hid BX
  have HPX := Lib.hid PX
  have hmx := P.a.mx
  clear BX PX
  have HFD := Lib.hid (rfield_any HPX.out.r a f false)
  have HSR := Lib.hid (fun (w1 : World) (h1 : AreAt w1 b g cap L) => osetref_any h1 a f t)
  unfold tp rowV opV at *
  by_cases h0 : fldE L a f false = 0
  case neg =>
    have e1 : srE L a f t = fldE L a f false := by unfold srE; rw [if_neg h0]
    have e2 : srL L a f t = L := by unfold srL; rw [e1, if_neg h0]
    rw [e1, e2] at HSR
    generalize fldE L a f false = E at *
    generalize fldP L a f false = X at *
    clear e1 e2 P hv ht
    go_enter Try.func49, Try.ntmps49
    go_wp2_with fail
    refine HFD.out.mono ?_
    rintro e w2 ⟨rfl, hb2⟩
    have HP2 := Lib.hid (plo_below HPX.out hb2)
    obtain ⟨z0, z1, z2, z3, z4, z5, z6, zf⟩ := o_blk7 (blk_below HBX.out hb2)
    clear hb2
    go_wp2_with fail
    refine (HSR.out _ HP2.out.a).mono ?_
    rintro e w3 ⟨rfl, A3, G3⟩
    have HP3 := Lib.hid (plo_same HP2.out G3 A3)
    clear A3 G3 z0 z1 z2 z3 z4 z5 z6 zf
    go_wp2_with fail
    go_ret2
    exact ⟨gr, cr, _, by first | rfl | (simp only [beq_self_eq_true]; rfl), HP3.out, rfl⟩
  case pos =>
    rcases (show t < -1 ∨ (-1 ≤ t ∧ 2147483647 < t) ∨ (-1 ≤ t ∧ t ≤ 2147483647) by omega) with q | ⟨q1, q⟩ | ⟨q1, q⟩
    case inr.inr =>
      obtain ⟨p, e3, h1, h2, h3⟩ := fld_word h0
      have e1 : srE L a f t = 0 := by unfold srE; rw [if_pos h0, if_neg (by omega)]
      have e2 : srL L a f t = lay L p (putL 8 (t + 1)) := by
        unfold srL; rw [if_pos e1, setW_ok h3, e3, Int.toNat_natCast]
      have HPUT := Lib.hid (fun w => rnput_any 8 (t + 1) w (by decide) (by omega) (by omega))
      have HWI := Lib.hid (fun (w1 : World) (R : RowAt w1 gr cr L) u hu => r3with_any R p u (putL 8 (t + 1)) hu (isBytes_putL _ _) (by rw [putL_length]; exact h2))
      have HLL : Hid ((lay L p (putL 8 (t + 1))).length = L.length) := lay_length (by rw [putL_length]; exact h2)
      rw [e1, e2] at HSR
      rw [e3, h0] at HFD
      generalize lay L p (putL 8 (t + 1)) = M at *
      generalize putL 8 (t + 1) = PV at *
      unfold rowV at HWI
      clear e1 e2 e3 h0 h1 h2 h3 P hv ht
      go_enter Try.func49, Try.ntmps49
      go_wp2_with fail
      refine HFD.out.mono ?_
      rintro e w2 ⟨rfl, hb2⟩
      have HP2 := Lib.hid (plo_below HPX.out hb2)
      have HB2 := Lib.hid (blk_below HBX.out hb2)
      obtain ⟨z0, z1, z2, z3, z4, z5, z6, zf⟩ := o_blk7 HB2.out
      clear hb2
      go_wp2_with fail
      refine (HSR.out _ HP2.out.a).mono ?_
      rintro e w3 ⟨rfl, A3, G3⟩
      have HA3 := Lib.hid A3
      have HG3 := Lib.hid G3
      have HR3 := Lib.hid (row_grown HP2.out.r G3 (by intro e; injection e with e; exact HP2.out.ng e.symm))
      clear z0 z1 z2 z3 z4 z5 z6 zf
      obtain ⟨z0, z1, z2, z3, z4, z5, z6, zf⟩ := o_blk7 (blk_grown HB2.out G3 (by intro e; injection e with e; exact HXN.out.2.1 e))
      clear A3 G3
      go_wp2_with fail
      refine (HPUT.out _).mono ?_
      rintro e w4 ⟨v4, rfl, own4, hb4⟩
      have HB4 := Lib.hid hb4
      have HO4 := Lib.hid (ownB_read own4)
      clear hb4 own4 z0 z1 z2 z3 z4 z5 z6 zf
      go_wp2_with fail
      refine (HWI.out _ (row_below HR3.out HB4.out) v4 HO4.out).mono ?_
      rintro e w5 ⟨g5, c5, rfl, R5, hg5, hb5⟩
      have HP5 := Lib.hid (plo_new HP2.out HG3.out HA3.out (b_call HB4.out hb5) R5 (by have := HB4.out.size; omega))
      clear R5 hg5 hb5
      unfold rowV
      go_wp2_with fail
      go_ret2
      exact ⟨g5, c5, _, by first | rfl | (simp only [beq_self_eq_true]; rfl), HP5.out, HLL.out⟩
    all_goals
      have e1 : srE L a f t = 1 := by unfold srE; rw [if_pos h0, if_pos (by omega)]
      have e2 : srL L a f t = L := by unfold srL; rw [e1, if_neg (by decide)]
      rw [e1, e2] at HSR
      rw [h0] at HFD
      generalize fldP L a f false = X at *
      clear e1 e2 h0 P hv ht
      go_enter Try.func49, Try.ntmps49
      go_wp2_with fail
      refine HFD.out.mono ?_
      rintro e w2 ⟨rfl, hb2⟩
      have HP2 := Lib.hid (plo_below HPX.out hb2)
      have HB2 := Lib.hid (blk_below HBX.out hb2)
      obtain ⟨z0, z1, z2, z3, z4, z5, z6, zf⟩ := o_blk7 HB2.out
      clear hb2
      go_wp2_with fail
      refine (HSR.out _ HP2.out.a).mono ?_
      rintro e w3 ⟨rfl, A3, G3⟩
      have HP3 := Lib.hid (plo_same HP2.out G3 A3)
      clear z0 z1 z2 z3 z4 z5 z6 zf
      obtain ⟨z0, z1, z2, z3, z4, z5, z6, zf⟩ := o_blk7 (blk_grown HB2.out G3 (by intro e; injection e with e; exact HXN.out.2.1 e))
      clear A3 G3
      go_wp2_with fail
      go_ret2
      exact ⟨gr, cr, _, by first | rfl | (simp only [beq_self_eq_true]; rfl), HP3.out, rfl⟩
end Go.Proofs.Ytgbbnmjfkhconaa
