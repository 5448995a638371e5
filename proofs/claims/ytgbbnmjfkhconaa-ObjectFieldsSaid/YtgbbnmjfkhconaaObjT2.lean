/- Layer 17's 'step', the arm of kind 2 (Head). Conditions: an arena and the document's row, alike. -/
import Derived.Test.YtgbbnmjfkhconaaObjT0
namespace Go.Proofs.Ytgbbnmjfkhconaa
open Go.RowKit
set_option linter.unusedVariables false
set_option linter.unusedSimpArgs false
attribute [local go_sem] over_cell over_frozen
set_option maxRecDepth 100000 in
set_option maxHeartbeats 4000000 in
theorem step17_k2 {w wr : World} {b g cap gr cr : Nat} {L : List Int} (P : PlO w wr b g cap gr cr L) (a f t v r n : Int) (hv : 0 ≤ v ∧ v < 18446744073709551616) (ht : -9223372036854775808 ≤ t ∧ t ≤ 9223372036854775807) : Calls Try.prog 49 #[tp b, rowV gr L cr, opV 2 a f t v r n] wr (StepRet w b g cap L.length) := by
  have BX : Blk (wr.alloc (.cells #[.int .i64 2, .int .i64 a, .int .i64 f, .int .i64 t, .int .u64 v, .int .i64 r, .int .i64 n] 78)) wr.heap.size [.int .i64 2, .int .i64 a, .int .i64 f, .int .i64 t, .int .u64 v, .int .i64 r, .int .i64 n] := blk_new _ _ _
  have PX := plo_below P (b_alloc (Below.refl wr.heap.size wr) (.cells #[.int .i64 2, .int .i64 a, .int .i64 f, .int .i64 t, .int .u64 v, .int .i64 r, .int .i64 n] 78))
  have HXN : Hid (wr.heap.size ≠ b ∧ wr.heap.size ≠ g ∧ wr.heap.size ≠ gr) := by
    have q1 := P.a.hd.1
    have q2 := P.a.rw.1
    have q3 := P.r.rw.1
    exact ⟨by omega, by omega, by omega⟩
  have HBX := Lib.hid BX
  have HPX := Lib.hid PX
  have hmx := P.a.mx
  clear BX PX
  have HH := Lib.hid (ohead_any HPX.out.a a)
  have HRH := Lib.hid (fun (w1 : World) (h1 : RowAt w1 gr cr L) => rhead_any h1 a)
  generalize headR L a = hr at *
  generalize headN L a = hn at *
  generalize headE L a = E at *
  have HO := Lib.hid (fun w => ours17_any hr hn w)
  have kq := eqShp hr hn
  have gq := guardShp
  unfold shp tp rowV opV at *
  clear P hv ht
  go_enter Try.func49, Try.ntmps49
  go_wp2_with fail
  refine HH.out.mono ?_
  rintro e w2 ⟨rfl, hb2⟩
  have HP2 := Lib.hid (plo_below HPX.out (b_call hb2 (b_alloc (Below.refl _ w2) (.cells #[.int .i64 hr, .int .i64 hn] 25))))
  have HBX2 := Lib.hid (blk_below HBX.out (b_call hb2 (b_alloc (Below.refl _ w2) (.cells #[.int .i64 hr, .int .i64 hn] 25))))
  obtain ⟨z0, z1, z2, z3, z4, z5, z6, zf⟩ := o_blk7 HBX2.out
  have hlx := HBX2.out.1
  clear hb2
  go_wp2_with fail
  refine (HRH.out _ HP2.out.r).mono ?_
  rintro e w3 ⟨rfl, hb3⟩
  obtain ⟨hc3, hf3⟩ := bcell hb3
  have hz3 := hb3.size
  simp only [World.size_alloc] at hz3
  have l3 : w2.heap.size < w3.heap.size := by omega
  have y0 : w3.cell? ⟨w2.heap.size, 0, none⟩ = some (.int .i64 hr) := by rw [hc3 _ _ (by simp only [World.size_alloc]; omega)]; go_simp
  have y1 : w3.cell? ⟨w2.heap.size, 1, none⟩ = some (.int .i64 hn) := by rw [hc3 _ _ (by simp only [World.size_alloc]; omega)]; go_simp
  have HP3 := Lib.hid (plo_below HP2.out hb3)
  clear hb3 hc3 hf3 hz3 z0 z1 z2 z3 z4 z5 z6 zf hlx
  go_wp2_with fail
  refine wp_region_over_lit (by kernel_rfl) (by kernel_rfl) ?_
  repeat (first | go_big_quiet_step ((first | (go_at_call 13; exact over_call (HO.out _)))) | quiet_step ((first | (go_at_call 13; exact over_call (HO.out _)))))
  refine wpQuiet_nil ?_
  intro w9 hb9; replace hb9 := over_elim hb9; obtain ⟨hc9, hf9⟩ := bcell hb9; have hz9 := hb9.size; try simp only [World.size_alloc, World.size_setCell, World.size_drew] at hz9
  have HP9 := Lib.hid (plo_below HP3.out (b_call (b_alloc (Below.refl _ _) _) hb9))
  clear hb9 hc9 hf9 hz9
  go_wp2_with fail
  go_ret2
  exact ⟨gr, cr, _, by first | rfl | (simp only [beq_self_eq_true]; rfl), HP9.out, rfl⟩
end Go.Proofs.Ytgbbnmjfkhconaa
