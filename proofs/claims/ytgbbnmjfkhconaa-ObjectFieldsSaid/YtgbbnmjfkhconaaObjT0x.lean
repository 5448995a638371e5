/- Layer 17's 'step', the arm of kind any other. Conditions: an arena and the document's row, alike. -/
import Derived.Test.YtgbbnmjfkhconaaObjT0
namespace Go.Proofs.Ytgbbnmjfkhconaa
open Go.RowKit
set_option linter.unusedVariables false
set_option linter.unusedSimpArgs false
attribute [local go_sem] over_cell over_frozen
set_option maxRecDepth 100000 in
set_option maxHeartbeats 4000000 in
theorem step17_kx {w wr : World} {b g cap gr cr : Nat} {L : List Int} (P : PlO w wr b g cap gr cr L) (k a f t v r n : Int) (hv : 0 ≤ v ∧ v < 18446744073709551616) (ht : -9223372036854775808 ≤ t ∧ t ≤ 9223372036854775807) (hk : k < 0 ∨ 10 < k) : Calls Try.prog 49 #[tp b, rowV gr L cr, opV k a f t v r n] wr (StepRet w b g cap L.length) := by
  have BX : Blk (wr.alloc (.cells #[.int .i64 k, .int .i64 a, .int .i64 f, .int .i64 t, .int .u64 v, .int .i64 r, .int .i64 n] 78)) wr.heap.size [.int .i64 k, .int .i64 a, .int .i64 f, .int .i64 t, .int .u64 v, .int .i64 r, .int .i64 n] := blk_new _ _ _
  have PX := plo_below P (b_alloc (Below.refl wr.heap.size wr) (.cells #[.int .i64 k, .int .i64 a, .int .i64 f, .int .i64 t, .int .u64 v, .int .i64 r, .int .i64 n] 78))
  have HXN : Hid (wr.heap.size ≠ b ∧ wr.heap.size ≠ g ∧ wr.heap.size ≠ gr) := by
    have q1 := P.a.hd.1
    have q2 := P.a.rw.1
    have q3 := P.r.rw.1
    exact ⟨by omega, by omega, by omega⟩
  have HBX := Lib.hid BX
  have HPX := Lib.hid PX
  have hmx := P.a.mx
  clear BX PX
  have f0 : (k == 0) = false := by rw [beq_eq_false_iff_ne]; omega
  have f1 : (k == 1) = false := by rw [beq_eq_false_iff_ne]; omega
  have f2 : (k == 2) = false := by rw [beq_eq_false_iff_ne]; omega
  have f3 : (k == 3) = false := by rw [beq_eq_false_iff_ne]; omega
  have f4 : (k == 4) = false := by rw [beq_eq_false_iff_ne]; omega
  have f5 : (k == 5) = false := by rw [beq_eq_false_iff_ne]; omega
  have f6 : (k == 6) = false := by rw [beq_eq_false_iff_ne]; omega
  have f7 : (k == 7) = false := by rw [beq_eq_false_iff_ne]; omega
  have f8 : (k == 8) = false := by rw [beq_eq_false_iff_ne]; omega
  have f9 : (k == 9) = false := by rw [beq_eq_false_iff_ne]; omega
  have f10 : (k == 10) = false := by rw [beq_eq_false_iff_ne]; omega
  unfold tp rowV opV at *
  clear P hv ht hk
  go_enter Try.func49, Try.ntmps49
  go_wp2_with fail
  go_ret2
  exact ⟨gr, cr, _, rfl, HPX.out, rfl⟩
end Go.Proofs.Ytgbbnmjfkhconaa
