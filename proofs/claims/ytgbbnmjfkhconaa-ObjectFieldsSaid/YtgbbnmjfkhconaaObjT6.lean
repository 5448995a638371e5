/- Layer 17's 'step', the arm of kind 6 (Num). Conditions: an arena and the document's row, alike. -/
import Derived.Test.YtgbbnmjfkhconaaObjT0
namespace Go.Proofs.Ytgbbnmjfkhconaa
open Go.RowKit
set_option linter.unusedVariables false
set_option linter.unusedSimpArgs false
attribute [local go_sem] over_cell over_frozen
set_option maxRecDepth 100000 in
set_option maxHeartbeats 4000000 in
theorem step17_k6 {w wr : World} {b g cap gr cr : Nat} {L : List Int} (P : PlO w wr b g cap gr cr L) (a f t v r n : Int) (hv : 0 ≤ v ∧ v < 18446744073709551616) (ht : -9223372036854775808 ≤ t ∧ t ≤ 9223372036854775807) : Calls Try.prog 49 #[tp b, rowV gr L cr, opV 6 a f t v r n] wr (StepRet w b g cap L.length) := by
  have BX : Blk (wr.alloc (.cells #[.int .i64 6, .int .i64 a, .int .i64 f, .int .i64 t, .int .u64 v, .int .i64 r, .int .i64 n] 78)) wr.heap.size [.int .i64 6, .int .i64 a, .int .i64 f, .int .i64 t, .int .u64 v, .int .i64 r, .int .i64 n] := blk_new _ _ _
  have PX := plo_below P (b_alloc (Below.refl wr.heap.size wr) (.cells #[.int .i64 6, .int .i64 a, .int .i64 f, .int .i64 t, .int .u64 v, .int .i64 r, .int .i64 n] 78))
  have HXN : Hid (wr.heap.size ≠ b ∧ wr.heap.size ≠ g ∧ wr.heap.size ≠ gr) := by
    have q1 := P.a.hd.1
    have q2 := P.a.rw.1
    have q3 := P.r.rw.1
    exact ⟨by omega, by omega, by omega⟩
  have HBX := Lib.hid BX
  have HPX := Lib.hid PX
  have hmx := P.a.mx
  clear BX PX
  have HFD := Lib.hid (rfield_any HPX.out.r a f true)
  have HRF := Lib.hid (fun (w1 : World) (h1 : AreAt w1 b g cap L) => onum_any h1 a f)
  unfold tp rowV opV at *
  by_cases h0 : fldE L a f true = 0
  case neg =>
    have e1 : numV L a f = 0 := by unfold numV; rw [if_neg h0]
    rw [e1] at HRF
    generalize fldE L a f true = E at *
    generalize fldP L a f true = X at *
    clear e1 P hv ht
    go_enter Try.func49, Try.ntmps49
    go_wp2_with fail
    refine HFD.out.mono ?_
    rintro e w2 ⟨rfl, hb2⟩
    have HP2 := Lib.hid (plo_below HPX.out hb2)
    obtain ⟨z0, z1, z2, z3, z4, z5, z6, zf⟩ := o_blk7 (blk_below HBX.out hb2)
    clear hb2
    go_wp2_with fail
    refine (HRF.out _ HP2.out.a).mono ?_
    rintro e w3 ⟨rfl, hb3⟩
    have HP3 := Lib.hid (plo_below HP2.out hb3)
    clear hb3 z0 z1 z2 z3 z4 z5 z6 zf
    go_wp2_with fail
    go_ret2
    exact ⟨gr, cr, _, by first | rfl | (simp only [beq_self_eq_true]; rfl), HP3.out, rfl⟩
  case pos =>
    obtain ⟨p, e1, h1, h2, h3⟩ := fld_word h0
    have hcr := cap_le P.r.cp
    have hlc := P.r.le
    have hw8 : Hid (∀ w1, RowAt w1 gr cr L → ReadB w1 (.slice (some ⟨gr, p, none⟩) 8 (cr - p)) ((L.drop p).take 8)) := fun w1 R => readB_sub R.rw R.le R.cp h2 (fun _ => rfl) rfl (by intro e; cases e)
    have HBY : Hid (IsBytes ((L.drop p).take 8)) := isBytes_take (isBytes_drop P.r.by_ p) 8
    have HLN : Hid (((L.drop p).take 8).length ≤ 274877906944) := by show _ ≤ _; rw [List.length_take]; omega
    have HGT := Lib.hid (fun (w1 : World) (R : RowAt w1 gr cr L) => rnget_any _ _ w1 (hw8.out w1 R) HBY.out HLN.out)
    have hG : getL ((L.drop p).take 8) = getW L p := rfl
    have hG2 : getL (((L.drop p).take 8).take 8) = getW L p := by rw [List.take_take]; rfl
    have e2 : numV L a f = getW L p := by unfold numV; rw [if_pos h0, e1, Int.toNat_natCast]
    rw [e1, h0] at HFD
    rw [e2, h0] at HRF
    simp only [hG, hG2] at HGT
    have hb := getW_lt P.r.by_ p
    generalize getW L p = W at *
    have p0 : (0 : Int) ≤ p := by omega
    have p1 : (p : Int) + 8 ≤ L.length := by omega
    have p2 : (p : Int) + 8 ≤ cr := by omega
    have p3 : (p : Int) ≤ 65528 := by omega
    clear e1 e2 hG hG2 h0 h1 h2 h3 P hv ht
    go_enter Try.func49, Try.ntmps49
    go_wp2_with fail
    refine HFD.out.mono ?_
    rintro e w2 ⟨rfl, hb2⟩
    have HP2 := Lib.hid (plo_below HPX.out hb2)
    obtain ⟨z0, z1, z2, z3, z4, z5, z6, zf⟩ := o_blk7 (blk_below HBX.out hb2)
    clear hb2
    go_wp2_with fail
    refine (HRF.out _ HP2.out.a).mono ?_
    rintro e w3 ⟨rfl, hb3⟩
    have HP3 := Lib.hid (plo_below HP2.out hb3)
    clear hb3 z0 z1 z2 z3 z4 z5 z6 zf
    go_wp2_with fail
    refine (HGT.out _ HP3.out.r).mono ?_
    rintro e w4 ⟨rfl, rfl⟩
    go_wp2_with fail
    go_ret2
    exact ⟨gr, cr, _, by first | rfl | (simp only [beq_self_eq_true]; rfl), HP3.out, rfl⟩
end Go.Proofs.Ytgbbnmjfkhconaa
