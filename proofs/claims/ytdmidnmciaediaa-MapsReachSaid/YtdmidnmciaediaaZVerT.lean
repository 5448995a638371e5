/- Layer 26: the contract of the program's turn. Conditions: those stated. -/
import Derived.Test.YtdmidnmciaediaaZVer4
import Derived.Test.YtdmidnmciaediaaZHeldE
namespace Go.Proofs.Ytdmidnmciaediaa
open Go.RowKit
set_option linter.unusedVariables false
set_option linter.unusedSimpArgs false
attribute [local go_sem] over_cell over_frozen
def RetT (B : Nat) (w : World) (D : Deal) (e : Ending) (w' : World) : Prop := ∃ a c b d, e = .returned (.tuple #[aggD a D.t.length c b D.p.length d D.c, .bool true]) ∧ ReadI w' (.slice a D.t.length c) D.t ∧ ReadI w' (.slice b D.p.length d) D.p ∧ Far B w (.slice a D.t.length c) D.t.length ∧ Far B w (.slice b D.p.length d) D.p.length ∧ Below w.heap.size w w'
theorem vturn_not (op x a b : Int) (sa : Option Addr) (sn sc : Nat) (w : World) (h8 : op ≠ 8) (h9 : op ≠ 9) : Calls Try.prog 109 #[.agg #[.int .i64 op, .int .u64 x, .int .i64 a, .int .i64 b], .slice sa sn sc] w fun e w' => e = .returned (.tuple #[aggD none 0 0 none 0 0 0, .bool false]) ∧ Below w.heap.size w w' := by
  have n8 : (op != 8) = true := by rw [bne_iff_ne]; exact h8
  have n9 : (op != 9) = true := by rw [bne_iff_ne]; exact h9
  unfold aggD
  clear h8 h9
  go_enter Try.func109, Try.ntmps109
  go_wp2_with fail
  exact bodyPost_ret (v := .tuple #[.agg #[.slice none 0 0, .slice none 0 0, .int .i64 0], .bool false]) (by simp [results, Try.results109, go_sem]) rfl ⟨rfl, by (repeat' (first | exact Below.refl _ _ | assumption | refine b_alloc ?_ _ | refine b_over ?_ _ | refine b_drew ?_ | refine b_call ?_ (by assumption)))⟩
set_option maxRecDepth 100000 in
set_option maxHeartbeats 2000000 in
theorem vturn8 (x a b : Int) (sa : Option Addr) (sc : Nat) (st : List Int) (W0 w : World) (hst : ReadI W0 (.slice sa st.length sc) st) (hb : Below W0.heap.size W0 w) (hl : st.length ≤ 100) : Calls Try.prog 109 #[.agg #[.int .i64 8, .int .u64 x, .int .i64 a, .int .i64 b], .slice sa st.length sc] w (RetT W0.heap.size w (if st.length = 0 then bad 2 else ⟨[topL st], [], 0⟩)) := by
  obtain ⟨N, hN⟩ : ∃ N, N = st.length := ⟨_, rfl⟩
  rw [← hN] at hst hl ⊢
  by_cases h0 : N = 0
  · subst h0
    rw [if_pos rfl]
    have HN := Lib.hid hN
    clear hN hst hb
    go_enter Try.func109, Try.ntmps109
    go_upto_region 1 with fail
    refine wp_named ?_
    intro W hW
    obtain ⟨q0, q1, qb⟩ := boxes2 w #[.int .i64 8, .int .u64 x, .int .i64 a, .int .i64 b] #[.slice none 0 0, .slice none 0 0, .int .i64 0] 123 179
    rw [← hW] at q0 q1 qb
    have HBW := Lib.hid qb
    have HK : Hid (∀ w', Below W.heap.size W w' → w'.cell? ⟨w.heap.size, 0, none⟩ = some (.int .i64 8) ∧ w'.cell? ⟨w.heap.size, 1, none⟩ = some (.int .u64 x) ∧ w'.cell? ⟨w.heap.size, 2, none⟩ = some (.int .i64 a) ∧ w'.cell? ⟨w.heap.size, 3, none⟩ = some (.int .i64 b) ∧ w'.cell? ⟨w.heap.size + 1, 0, none⟩ = some (.slice none 0 0) ∧ w'.cell? ⟨w.heap.size + 1, 1, none⟩ = some (.slice none 0 0) ∧ w'.cell? ⟨w.heap.size + 1, 2, none⟩ = some (.int .i64 0) ∧ (∀ i, w'.frozen? ⟨w.heap.size + 1, i, none⟩ = false) ∧ w.heap.size < w'.heap.size ∧ w.heap.size + 1 < w'.heap.size) := Lib.hid (fun w' hb => by
      have k0 := blk_below q0 hb
      obtain ⟨x0_0, x0_1, x0_2, x0_3, f0⟩ := blk4 k0
      have z0 := k0.1
      have k1 := blk_below q1 hb
      obtain ⟨x1_0, x1_1, x1_2, f1⟩ := v_blk3 k1
      have z1 := k1.1
      exact ⟨x0_0, x0_1, x0_2, x0_3, x1_0, x1_1, x1_2, f1, z0, z1⟩)
    clear hW qb q0 q1
    have HBI : Hid (Below W.heap.size W W) := Below.refl _ _
    obtain ⟨c0_0, c0_1, c0_2, c0_3, c1_0, c1_1, c1_2, cf, s0, s1⟩ := HK.out W HBI.out
    go_wp2_with fail
    refine (vwrong_any _ _).mono ?_
    rintro e w9 ⟨rfl, hb9⟩
    have HB9 := Lib.hid (b_call HBI.out hb9)
    clear c0_0 c0_1 c0_2 c0_3 c1_0 c1_1 c1_2 cf s0 s1
    clear hb9
    obtain ⟨c0_0, c0_1, c0_2, c0_3, c1_0, c1_1, c1_2, cf, s0, s1⟩ := HK.out w9 HB9.out
    unfold aggD
    go_wp2_with fail
    exact bodyPost_ret (v := .tuple #[.agg #[.slice none 0 0, .slice none 0 0, .int .i64 2], .bool true]) (by simp [results, Try.results109, go_sem, c1_0, c1_1, c1_2]) rfl (by
      show RetT _ _ _ _ _
      exact ⟨_, _, _, _, rfl, readI_nil _, readI_nil _, far_nil _ _ _ _ _, far_nil _ _ _ _ _, b_grown (b_call HBW.out HB9.out) (gb_set3 _ _ _ _ _) (by omega)⟩)
  · rw [if_neg h0]
    obtain ⟨n, rfl⟩ : ∃ n, N = n + 1 := ⟨N - 1, by omega⟩
    obtain ⟨hq0, hsc, hsc2⟩ := int_len (s := ⟨sa, n + 1, sc⟩) hst
    simp only at hsc hsc2
    rw [← hN] at hsc
    clear hq0
    obtain ⟨bb, oo, ea, hlt, hcell⟩ := int_at (s := ⟨sa, n + 1, sc⟩) hst (k := n) (by omega)
    simp only at ea
    subst ea
    have hz : topL st = st.getD n 0 := by unfold topL; rw [← hN]; rfl
    have HD1 : Hid (ReadI W0 (.slice (some ⟨bb, oo + n, none⟩) 1 (sc - n)) [topL st]) := by
      have q := hst
      rw [hN] at q
      have q2 := readR_I (readR_drop (n := n) (readI_R q) (by omega))
      rw [show st.drop n = [topL st] by
        rw [List.drop_eq_getElem_cons (by omega), List.drop_of_length_le (by omega), hz, List.getD_eq_getElem?_getD, List.getElem?_eq_getElem (by omega)]; rfl] at q2
      rw [show st.length - n = 1 by omega] at q2
      have q3 : oo + n * intE.size = oo + n := by show oo + n * 1 = _; omega
      rw [q3] at q2
      exact q2
    rw [← hz] at hcell
    generalize topL st = z at *
    have HN := Lib.hid hN
    have HLT := Lib.hid hlt
    have hscn : ¬ (sc = n) := by omega
    have HCW := Lib.hid (((bcell hb).1 _ _ hlt).trans hcell)
    have HB0 := Lib.hid hb
    have n0 : (0 : Int) ≤ n := by omega
    have nb : (n : Int) + 1 ≤ 100 := by omega
    have n1 : (n : Int) ≤ sc := by omega
    have e1 : n + 1 - n = 1 := by omega
    clear hcell hz h0 hN hst hb hlt
    go_enter Try.func109, Try.ntmps109
    go_upto_region 1 with fail
    refine wp_named ?_
    intro W hW
    obtain ⟨q0, q1, qb⟩ := boxes2 w #[.int .i64 8, .int .u64 x, .int .i64 a, .int .i64 b] #[.slice none 0 0, .slice none 0 0, .int .i64 0] 123 179
    rw [← hW] at q0 q1 qb
    have HBW := Lib.hid qb
    have HK : Hid (∀ w', Below W.heap.size W w' → w'.cell? ⟨w.heap.size, 0, none⟩ = some (.int .i64 8) ∧ w'.cell? ⟨w.heap.size, 1, none⟩ = some (.int .u64 x) ∧ w'.cell? ⟨w.heap.size, 2, none⟩ = some (.int .i64 a) ∧ w'.cell? ⟨w.heap.size, 3, none⟩ = some (.int .i64 b) ∧ w'.cell? ⟨w.heap.size + 1, 0, none⟩ = some (.slice none 0 0) ∧ w'.cell? ⟨w.heap.size + 1, 1, none⟩ = some (.slice none 0 0) ∧ w'.cell? ⟨w.heap.size + 1, 2, none⟩ = some (.int .i64 0) ∧ (∀ i, w'.frozen? ⟨w.heap.size + 1, i, none⟩ = false) ∧ w.heap.size < w'.heap.size ∧ w.heap.size + 1 < w'.heap.size) := Lib.hid (fun w' hb => by
      have k0 := blk_below q0 hb
      obtain ⟨x0_0, x0_1, x0_2, x0_3, f0⟩ := blk4 k0
      have z0 := k0.1
      have k1 := blk_below q1 hb
      obtain ⟨x1_0, x1_1, x1_2, f1⟩ := v_blk3 k1
      have z1 := k1.1
      exact ⟨x0_0, x0_1, x0_2, x0_3, x1_0, x1_1, x1_2, f1, z0, z1⟩)
    clear hW qb q0 q1
    have HBI : Hid (Below W.heap.size W W) := Below.refl _ _
    obtain ⟨c0_0, c0_1, c0_2, c0_3, c1_0, c1_1, c1_2, cf, s0, s1⟩ := HK.out W HBI.out
    have hc1 : W.cell? ⟨bb, oo + n, none⟩ = some (.int .i64 z) := ((bcell HBW.out).1 _ _ (Nat.lt_of_lt_of_le HLT.out HB0.out.size)).trans HCW.out
    have hbl : bb < W.heap.size := by have := HBW.out.size; have := HB0.out.size; have := HLT.out; omega
    have HS1 := Lib.hid HB0.out.size
    have HS2 := Lib.hid HBW.out.size
    have HD2 := Lib.hid (readI_below HD1.out (b_call HB0.out HBW.out))
    go_wp2_with fail
    refine (vof_any _ _ _ _ _ _ _).mono ?_
    rintro e w8 ⟨rfl, hb8⟩
    have HB8 := Lib.hid hb8
    clear hb8
    clear c0_0 c0_1 c0_2 c0_3 c1_0 c1_1 c1_2 cf s0 s1
    obtain ⟨c0_0, c0_1, c0_2, c0_3, c1_0, c1_1, c1_2, cf, s0, s1⟩ := HK.out w8 HB8.out
    have HSX := Lib.hid (HK.out _ HBI.out)
    unfold aggD
    go_wp2_with fail
    have hx : w.heap.size + 1 < W.heap.size := by have := HSX.out; omega
    exact bodyPost_ret (v := .tuple #[.agg #[.slice (some ⟨bb, oo + n, none⟩) 1 (sc - n), .slice none 0 0, .int .i64 0], .bool true]) (by simp [results, Try.results109, go_sem, c1_0, c1_1, c1_2]) rfl (by
      show RetT _ _ _ _ _
      exact ⟨_, _, _, _, rfl, readI_far (B := W0.heap.size) (w0 := W) (readI_below HD2.out HB8.out) (far_read HD1.out) (by have := HS1.out; omega) hx (gb_set3 _ _ _ _ _), readI_nil _, far_read HD1.out, far_nil _ _ _ _ _, b_grown (b_call HBW.out HB8.out) (gb_set3 _ _ _ _ _) (by omega)⟩)
set_option maxRecDepth 100000 in
set_option maxHeartbeats 2000000 in
theorem vturn9 (x a b : Int) (sa : Option Addr) (sc : Nat) (st : List Int) (W0 w : World) (hst : ReadI W0 (.slice sa st.length sc) st) (hb : Below W0.heap.size W0 w) (hl : st.length ≤ 100) : Calls Try.prog 109 #[.agg #[.int .i64 9, .int .u64 x, .int .i64 a, .int .i64 b], .slice sa st.length sc] w (RetT W0.heap.size w (if st.length = 0 then bad 2 else ⟨[topL st], [topL st, topL st], 0⟩)) := by
  obtain ⟨N, hN⟩ : ∃ N, N = st.length := ⟨_, rfl⟩
  rw [← hN] at hst hl ⊢
  by_cases h0 : N = 0
  · subst h0
    rw [if_pos rfl]
    have HN := Lib.hid hN
    clear hN hst hb
    go_enter Try.func109, Try.ntmps109
    go_upto_region 1 with fail
    refine wp_named ?_
    intro W hW
    obtain ⟨q0, q1, qb⟩ := boxes2 w #[.int .i64 9, .int .u64 x, .int .i64 a, .int .i64 b] #[.slice none 0 0, .slice none 0 0, .int .i64 0] 123 179
    rw [← hW] at q0 q1 qb
    have HBW := Lib.hid qb
    have HK : Hid (∀ w', Below W.heap.size W w' → w'.cell? ⟨w.heap.size, 0, none⟩ = some (.int .i64 9) ∧ w'.cell? ⟨w.heap.size, 1, none⟩ = some (.int .u64 x) ∧ w'.cell? ⟨w.heap.size, 2, none⟩ = some (.int .i64 a) ∧ w'.cell? ⟨w.heap.size, 3, none⟩ = some (.int .i64 b) ∧ w'.cell? ⟨w.heap.size + 1, 0, none⟩ = some (.slice none 0 0) ∧ w'.cell? ⟨w.heap.size + 1, 1, none⟩ = some (.slice none 0 0) ∧ w'.cell? ⟨w.heap.size + 1, 2, none⟩ = some (.int .i64 0) ∧ (∀ i, w'.frozen? ⟨w.heap.size + 1, i, none⟩ = false) ∧ w.heap.size < w'.heap.size ∧ w.heap.size + 1 < w'.heap.size) := Lib.hid (fun w' hb => by
      have k0 := blk_below q0 hb
      obtain ⟨x0_0, x0_1, x0_2, x0_3, f0⟩ := blk4 k0
      have z0 := k0.1
      have k1 := blk_below q1 hb
      obtain ⟨x1_0, x1_1, x1_2, f1⟩ := v_blk3 k1
      have z1 := k1.1
      exact ⟨x0_0, x0_1, x0_2, x0_3, x1_0, x1_1, x1_2, f1, z0, z1⟩)
    clear hW qb q0 q1
    have HBI : Hid (Below W.heap.size W W) := Below.refl _ _
    obtain ⟨c0_0, c0_1, c0_2, c0_3, c1_0, c1_1, c1_2, cf, s0, s1⟩ := HK.out W HBI.out
    go_wp2_with fail
    refine (vwrong_any _ _).mono ?_
    rintro e w9 ⟨rfl, hb9⟩
    have HB9 := Lib.hid (b_call HBI.out hb9)
    clear c0_0 c0_1 c0_2 c0_3 c1_0 c1_1 c1_2 cf s0 s1
    clear hb9
    obtain ⟨c0_0, c0_1, c0_2, c0_3, c1_0, c1_1, c1_2, cf, s0, s1⟩ := HK.out w9 HB9.out
    unfold aggD
    go_wp2_with fail
    exact bodyPost_ret (v := .tuple #[.agg #[.slice none 0 0, .slice none 0 0, .int .i64 2], .bool true]) (by simp [results, Try.results109, go_sem, c1_0, c1_1, c1_2]) rfl (by
      show RetT _ _ _ _ _
      exact ⟨_, _, _, _, rfl, readI_nil _, readI_nil _, far_nil _ _ _ _ _, far_nil _ _ _ _ _, b_grown (b_call HBW.out HB9.out) (gb_set3 _ _ _ _ _) (by omega)⟩)
  · rw [if_neg h0]
    obtain ⟨n, rfl⟩ : ∃ n, N = n + 1 := ⟨N - 1, by omega⟩
    obtain ⟨hq0, hsc, hsc2⟩ := int_len (s := ⟨sa, n + 1, sc⟩) hst
    simp only at hsc hsc2
    rw [← hN] at hsc
    clear hq0
    obtain ⟨bb, oo, ea, hlt, hcell⟩ := int_at (s := ⟨sa, n + 1, sc⟩) hst (k := n) (by omega)
    simp only at ea
    subst ea
    have hz : topL st = st.getD n 0 := by unfold topL; rw [← hN]; rfl
    have HD1 : Hid (ReadI W0 (.slice (some ⟨bb, oo + n, none⟩) 1 (sc - n)) [topL st]) := by
      have q := hst
      rw [hN] at q
      have q2 := readR_I (readR_drop (n := n) (readI_R q) (by omega))
      rw [show st.drop n = [topL st] by
        rw [List.drop_eq_getElem_cons (by omega), List.drop_of_length_le (by omega), hz, List.getD_eq_getElem?_getD, List.getElem?_eq_getElem (by omega)]; rfl] at q2
      rw [show st.length - n = 1 by omega] at q2
      have q3 : oo + n * intE.size = oo + n := by show oo + n * 1 = _; omega
      rw [q3] at q2
      exact q2
    rw [← hz] at hcell
    generalize topL st = z at *
    have HN := Lib.hid hN
    have HLT := Lib.hid hlt
    have hscn : ¬ (sc = n) := by omega
    have HCW := Lib.hid (((bcell hb).1 _ _ hlt).trans hcell)
    have HB0 := Lib.hid hb
    have n0 : (0 : Int) ≤ n := by omega
    have nb : (n : Int) + 1 ≤ 100 := by omega
    have n1 : (n : Int) ≤ sc := by omega
    have e1 : n + 1 - n = 1 := by omega
    clear hcell hz h0 hN hst hb hlt
    go_enter Try.func109, Try.ntmps109
    go_upto_region 1 with fail
    refine wp_named ?_
    intro W hW
    obtain ⟨q0, q1, qb⟩ := boxes2 w #[.int .i64 9, .int .u64 x, .int .i64 a, .int .i64 b] #[.slice none 0 0, .slice none 0 0, .int .i64 0] 123 179
    rw [← hW] at q0 q1 qb
    have HBW := Lib.hid qb
    have HK : Hid (∀ w', Below W.heap.size W w' → w'.cell? ⟨w.heap.size, 0, none⟩ = some (.int .i64 9) ∧ w'.cell? ⟨w.heap.size, 1, none⟩ = some (.int .u64 x) ∧ w'.cell? ⟨w.heap.size, 2, none⟩ = some (.int .i64 a) ∧ w'.cell? ⟨w.heap.size, 3, none⟩ = some (.int .i64 b) ∧ w'.cell? ⟨w.heap.size + 1, 0, none⟩ = some (.slice none 0 0) ∧ w'.cell? ⟨w.heap.size + 1, 1, none⟩ = some (.slice none 0 0) ∧ w'.cell? ⟨w.heap.size + 1, 2, none⟩ = some (.int .i64 0) ∧ (∀ i, w'.frozen? ⟨w.heap.size + 1, i, none⟩ = false) ∧ w.heap.size < w'.heap.size ∧ w.heap.size + 1 < w'.heap.size) := Lib.hid (fun w' hb => by
      have k0 := blk_below q0 hb
      obtain ⟨x0_0, x0_1, x0_2, x0_3, f0⟩ := blk4 k0
      have z0 := k0.1
      have k1 := blk_below q1 hb
      obtain ⟨x1_0, x1_1, x1_2, f1⟩ := v_blk3 k1
      have z1 := k1.1
      exact ⟨x0_0, x0_1, x0_2, x0_3, x1_0, x1_1, x1_2, f1, z0, z1⟩)
    clear hW qb q0 q1
    have HBI : Hid (Below W.heap.size W W) := Below.refl _ _
    obtain ⟨c0_0, c0_1, c0_2, c0_3, c1_0, c1_1, c1_2, cf, s0, s1⟩ := HK.out W HBI.out
    have hc1 : W.cell? ⟨bb, oo + n, none⟩ = some (.int .i64 z) := ((bcell HBW.out).1 _ _ (Nat.lt_of_lt_of_le HLT.out HB0.out.size)).trans HCW.out
    have hbl : bb < W.heap.size := by have := HBW.out.size; have := HB0.out.size; have := HLT.out; omega
    have HS1 := Lib.hid HB0.out.size
    have HS2 := Lib.hid HBW.out.size
    have HD2 := Lib.hid (readI_below HD1.out (b_call HB0.out HBW.out))
    have hwn : IntKind.i64.wrap (n : Int) = n := by rw [IntKind.wrap_i64]; omega
    have hn2 : (n : Int) ≤ (n : Int) + 1 := by omega
    have hn3 : (n : Int) < (n : Int) + 1 := by omega
    go_upto_region 8 with fail
    have HST : Hid (∀ w', Below W.heap.size W w' → w'.cell? ⟨bb, oo + n, none⟩ = some (.int .i64 z)) := Lib.hid (fun w' hb => ((bcell hb).1 _ _ hbl).trans hc1)
    have HSX := Lib.hid (HK.out _ HBI.out)
    clear c0_0 c0_1 c0_2 c0_3 c1_0 c1_1 c1_2 cf s0 s1
    clear hc1
    refine wp_region_F (S := fun w' => w'.cell? ⟨bb, oo + n, none⟩ = some (.int .i64 z)) [16] (by kernel_rfl) (HST.out _ (b_drew (Below.refl _ _))) (fun hHeld => ?_)
    (refine wpAnyF_takeP (i := 0) (v := ?_) rfl (by kernel_rfl) (by kernel_rfl) (by kernel_rfl) (fun _ _ _ h => h) (Or.inl ⟨by rfl, ?_⟩) ?_; rotate_left; (focus (intro w hSw; (try dsimp only at hSw); go_simp; try (with_reducible rfl))); (try simp only [Act.put, List.getElem_toArray, List.getElem_cons_succ, List.getElem_cons_zero, List.setIfInBounds_toArray, List.set_cons_zero, List.set_cons_succ]))
    (refine wpAnyF_takeP (i := 1) (v := ?_) rfl (by kernel_rfl) (by kernel_rfl) (by kernel_rfl) (fun _ _ _ h => h) (Or.inl ⟨by rfl, ?_⟩) ?_; rotate_left; (focus (intro w hSw; (try dsimp only at hSw); go_simp; try (with_reducible rfl))); (try simp only [Act.put, List.getElem_toArray, List.getElem_cons_succ, List.getElem_cons_zero, List.setIfInBounds_toArray, List.set_cons_zero, List.set_cons_succ]))
    (refine wpAnyF_takeP (i := 2) (v := ?_) rfl (by kernel_rfl) (by kernel_rfl) (by kernel_rfl) (fun _ _ _ h => h) (Or.inl ⟨by rfl, ?_⟩) ?_; rotate_left; (focus (intro w hSw; (try dsimp only at hSw); go_simp; try (with_reducible rfl))); (try simp only [Act.put, List.getElem_toArray, List.getElem_cons_succ, List.getElem_cons_zero, List.setIfInBounds_toArray, List.set_cons_zero, List.set_cons_succ]))
    (refine wpAnyF_take (n := 40) (i := 3) (v := ?_) rfl (by kernel_rfl) (by kernel_rfl) (by kernel_rfl) (by kernel_rfl) (by kernel_rfl) (fun _ _ _ h => h) (Or.inl ⟨by rfl, ?_⟩) hHeld ?_; rotate_left; (focus (intro w hSw; (try dsimp only at hSw); go_simp; try (with_reducible rfl))); (try simp only [Act.put, List.getElem_toArray, List.getElem_cons_succ, List.getElem_cons_zero, List.setIfInBounds_toArray, List.set_cons_zero, List.set_cons_succ]))
    (refine wpAnyF_takeP (i := 4) (v := ?_) rfl (by kernel_rfl) (by kernel_rfl) (by kernel_rfl) (fun _ _ _ h => h) (Or.inl ⟨by rfl, ?_⟩) ?_; rotate_left; (focus (intro w hSw; (try dsimp only at hSw); go_simp; try (with_reducible rfl))); (try simp only [Act.put, List.getElem_toArray, List.getElem_cons_succ, List.getElem_cons_zero, List.setIfInBounds_toArray, List.set_cons_zero, List.set_cons_succ]))
    (refine wpAnyF_takeP (i := 5) (v := ?_) rfl (by kernel_rfl) (by kernel_rfl) (by kernel_rfl) (fun _ _ _ h => h) (Or.inl ⟨by rfl, ?_⟩) ?_; rotate_left; (focus (intro w hSw; (try dsimp only at hSw); go_simp; try (with_reducible rfl))); (try simp only [Act.put, List.getElem_toArray, List.getElem_cons_succ, List.getElem_cons_zero, List.setIfInBounds_toArray, List.set_cons_zero, List.set_cons_succ]))
    (refine wpAnyF_takeP (i := 6) (v := ?_) rfl (by kernel_rfl) (by kernel_rfl) (by kernel_rfl) (fun _ _ _ h => h) (Or.inl ⟨by rfl, ?_⟩) ?_; rotate_left; (focus (intro w hSw; (try dsimp only at hSw); go_simp; try (with_reducible rfl))); (try simp only [Act.put, List.getElem_toArray, List.getElem_cons_succ, List.getElem_cons_zero, List.setIfInBounds_toArray, List.set_cons_zero, List.set_cons_succ]))
    (refine wpAnyF_take (n := 40) (i := 7) (v := ?_) rfl (by kernel_rfl) (by kernel_rfl) (by kernel_rfl) (by kernel_rfl) (by kernel_rfl) (fun _ _ _ h => h) (Or.inl ⟨by rfl, ?_⟩) hHeld ?_; rotate_left; (focus (intro w hSw; (try dsimp only at hSw); go_simp; try (with_reducible rfl))); (try simp only [Act.put, List.getElem_toArray, List.getElem_cons_succ, List.getElem_cons_zero, List.setIfInBounds_toArray, List.set_cons_zero, List.set_cons_succ]))
    (refine wpAnyF_take (n := 40) (i := 8) (v := ?_) rfl (by kernel_rfl) (by kernel_rfl) (by kernel_rfl) (by kernel_rfl) (by kernel_rfl) (fun _ _ _ h => h) (Or.inl ⟨by rfl, ?_⟩) hHeld ?_; rotate_left; (focus (intro w hSw; (try dsimp only at hSw); go_simp; try (with_reducible rfl))); (try simp only [Act.put, List.getElem_toArray, List.getElem_cons_succ, List.getElem_cons_zero, List.setIfInBounds_toArray, List.set_cons_zero, List.set_cons_succ]))
    (refine wpAnyF_takeP (i := 9) (v := ?_) rfl (by kernel_rfl) (by kernel_rfl) (by kernel_rfl) (fun _ _ _ h => h) (Or.inl ⟨by rfl, ?_⟩) ?_; rotate_left; (focus (intro w hSw; (try dsimp only at hSw); go_simp; try (with_reducible rfl))); (try simp only [Act.put, List.getElem_toArray, List.getElem_cons_succ, List.getElem_cons_zero, List.setIfInBounds_toArray, List.set_cons_zero, List.set_cons_succ]))
    (refine wpAnyF_takeP (i := 10) (v := ?_) rfl (by kernel_rfl) (by kernel_rfl) (by kernel_rfl) (fun _ _ _ h => h) (Or.inl ⟨by rfl, ?_⟩) ?_; rotate_left; (focus (intro w hSw; (try dsimp only at hSw); go_simp; try (with_reducible rfl))); (try simp only [Act.put, List.getElem_toArray, List.getElem_cons_succ, List.getElem_cons_zero, List.setIfInBounds_toArray, List.set_cons_zero, List.set_cons_succ]))
    (refine wpAnyF_takeP (i := 11) (v := ?_) rfl (by kernel_rfl) (by kernel_rfl) (by kernel_rfl) (fun _ _ _ h => h) (Or.inl ⟨by rfl, ?_⟩) ?_; rotate_left; (focus (intro w hSw; (try dsimp only at hSw); go_simp; try (with_reducible rfl))); (try simp only [Act.put, List.getElem_toArray, List.getElem_cons_succ, List.getElem_cons_zero, List.setIfInBounds_toArray, List.set_cons_zero, List.set_cons_succ]))
    (refine wpAnyF_take (n := 40) (i := 12) (v := ?_) rfl (by kernel_rfl) (by kernel_rfl) (by kernel_rfl) (by kernel_rfl) (by kernel_rfl) (fun _ _ _ h => h) (Or.inl ⟨by rfl, ?_⟩) hHeld ?_; rotate_left; (focus (intro w hSw; (try dsimp only at hSw); go_simp; try (with_reducible rfl))); (try simp only [Act.put, List.getElem_toArray, List.getElem_cons_succ, List.getElem_cons_zero, List.setIfInBounds_toArray, List.set_cons_zero, List.set_cons_succ]))
    (refine wpAnyF_take (n := 40) (i := 13) (v := ?_) rfl (by kernel_rfl) (by kernel_rfl) (by kernel_rfl) (by kernel_rfl) (by kernel_rfl) (fun _ _ _ h => h) (Or.inl ⟨by rfl, ?_⟩) hHeld ?_; rotate_left; (focus (intro w hSw; (try dsimp only at hSw); go_simp; try (with_reducible rfl))); (try simp only [Act.put, List.getElem_toArray, List.getElem_cons_succ, List.getElem_cons_zero, List.setIfInBounds_toArray, List.set_cons_zero, List.set_cons_succ]))
    refine wpAnyF_ready (rs := [14]) (by kernel_rfl) (by simp) (AllReadyF.cons rfl (fun K hK => ?_) AllReadyF.nil)
    go_simp
    refine hK.out _ _ (HST.out _ (b_alloc (b_drew (Below.refl _ _)) _)) (fun hHeld => ?_)
    clear hK K
    (try simp only [Act.put, List.getElem_toArray, List.getElem_cons_succ, List.getElem_cons_zero, List.setIfInBounds_toArray, List.set_cons_zero, List.set_cons_succ])
    refine wpAnyF_ready (rs := [15]) (by kernel_rfl) (by simp) (AllReadyF.cons rfl (fun K hK => ?_) AllReadyF.nil)
    go_simp
    refine (vof_any _ _ _ _ _ _ _).mono ?_
    rintro e w8 ⟨rfl, hb8⟩
    have HC := Lib.hid hb8
    have HB8 := Lib.hid (b_call (b_alloc (b_drew (Below.refl W.heap.size W)) _) hb8)
    clear hb8
    unfold aggD
    refine hK.out _ _ (HST.out _ HB8.out) (fun hHeld => ?_)
    clear hK K
    (try simp only [Act.put, List.getElem_toArray, List.getElem_cons_succ, List.getElem_cons_zero, List.setIfInBounds_toArray, List.set_cons_zero, List.set_cons_succ])
    obtain ⟨c0_0, c0_1, c0_2, c0_3, c1_0, c1_1, c1_2, cf, s0, s1⟩ := HK.out w8 HB8.out
    refine wpAnyF_ready (rs := [16]) (by kernel_rfl) (by simp) (AllReadyF.free rfl (by decide) (fun K hK => ?_) AllReadyF.nil)
    go_simp
    refine hK.out _ _ (trivial) (fun hHeld => ?_)
    clear hK K
    (try simp only [Act.put, List.getElem_toArray, List.getElem_cons_succ, List.getElem_cons_zero, List.setIfInBounds_toArray, List.set_cons_zero, List.set_cons_succ])
    (refine wpAnyF_takeP (i := 17) (v := ?_) rfl (by kernel_rfl) (by kernel_rfl) (by kernel_rfl) (fun _ _ _ h => h) (Or.inl ⟨by rfl, ?_⟩) ?_; rotate_left; (focus (intro w hSw; (try dsimp only at hSw); go_simp; try (with_reducible rfl))); (try simp only [Act.put, List.getElem_toArray, List.getElem_cons_succ, List.getElem_cons_zero, List.setIfInBounds_toArray, List.set_cons_zero, List.set_cons_succ]))
    refine wpAnyF_done (by kernel_rfl) ?_
    go_wp2_with fail
    have hx : w.heap.size + 1 < W.heap.size := by have := HSX.out; omega
    exact bodyPost_ret (v := .tuple #[.agg #[.slice (some ⟨bb, oo + n, none⟩) 1 (sc - n), .slice (some ⟨W.heap.size, 0, none⟩) 2 2, .int .i64 0], .bool true]) (by simp [results, Try.results109, go_sem, c1_0, c1_1, c1_2]) rfl (by
      show RetT _ _ _ _ _
      exact ⟨_, _, _, _, rfl, readI_far (B := W0.heap.size) (w0 := W) (readI_below HD2.out HB8.out) (far_read HD1.out) (by have := HS1.out; omega) hx (gb_set3 _ _ _ _ _), lit_far (w2 := W.drew) [z, z] rfl (by simp) HC.out (gb_set3 _ _ _ _ _) hx, far_read HD1.out, far_new (by have := HS2.out; omega), b_grown (b_call HBW.out HB8.out) (gb_set3 _ _ _ _ _) (by omega)⟩)
end Go.Proofs.Ytdmidnmciaediaa
