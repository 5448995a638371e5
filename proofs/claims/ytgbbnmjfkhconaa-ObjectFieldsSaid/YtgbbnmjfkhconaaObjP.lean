/- ObjectPlays, walked: whatever calls, the answer is true. Conditions: the calls read as a list; their numbers are of their kinds. -/
import Derived.Test.YtgbbnmjfkhconaaObjT
import Derived.Test.YtgbbnmjfkhconaaObjA
namespace Go.Proofs.Ytgbbnmjfkhconaa
open Go.RowKit
set_option linter.unusedVariables false
set_option linter.unusedSimpArgs false
attribute [local go_sem] over_cell over_frozen
theorem op17_cells {w : World} {b o : Nat} {A : List Op17} (h4 : ∀ k, (h : k < A.length) → ∀ j, j < op17.size → w.cell? ⟨b, o + (k * op17.size + j), none⟩ = (op17.cells A[k])[j]?) (k : Nat) (hk : k < A.length) :
    w.cell? ⟨b, o + k * 7, none⟩ = some (.int .i64 A[k].k) ∧ w.cell? ⟨b, o + k * 7 + 1, none⟩ = some (.int .i64 A[k].a) ∧ w.cell? ⟨b, o + k * 7 + 2, none⟩ = some (.int .i64 A[k].f) ∧ w.cell? ⟨b, o + k * 7 + 3, none⟩ = some (.int .i64 A[k].t) ∧ w.cell? ⟨b, o + k * 7 + 4, none⟩ = some (.int .u64 A[k].v) ∧ w.cell? ⟨b, o + k * 7 + 5, none⟩ = some (.int .i64 A[k].r) ∧ w.cell? ⟨b, o + k * 7 + 6, none⟩ = some (.int .i64 A[k].n) := by
  have h4' : ∀ (j : Nat), j < 7 → w.cell? ⟨b, o + k * 7 + j, none⟩ = (op17.cells A[k])[j]? := fun j hj => by
    have := h4 k hk j hj
    rw [Nat.add_assoc]; exact this
  exact ⟨h4' 0 (by omega), h4' 1 (by omega), h4' 2 (by omega), h4' 3 (by omega), h4' 4 (by omega), h4' 5 (by omega), h4' 6 (by omega)⟩
def PlOt (w wr : World) (b g cap len : Nat) (rv : Value) : Prop := ∃ gr cr L, rv = rowV gr L cr ∧ PlO w wr b g cap gr cr L ∧ L.length = len
set_option maxRecDepth 100000 in
set_option maxHeartbeats 4000000 in
theorem objectPlays_any (n0 : Int) (u : Value) (ops : List Op17) (w : World) (h0 : 0 ≤ n0 ∧ n0 < 256) (h : ReadR op17 w u ops) (hg : ∀ o ∈ ops, Good17 o) :
    Calls Try.prog 8 #[.int .u8 n0, u] w fun e w' => e = .returned (.bool true) ∧ Below w.heap.size w w' := by
  obtain ⟨N, hN⟩ : ∃ N : Nat, n0 % 4 = N ∧ N ≤ 3 := ⟨(n0 % 4).toNat, by omega, by omega⟩
  obtain ⟨hN, hN3⟩ := hN
  have hN1 : n0.tmod 4 = N := by rw [Int.tmod_eq_emod_of_nonneg h0.1]; exact hN
  have hpg : pagesN N = N := by unfold pagesN; rw [if_neg (by omega), if_neg (by omega), Int.toNat_natCast]
  have HNEW := Lib.hid (anew_any N)
  have HRN := Lib.hid (r3new_any N)
  rw [hpg] at HNEW HRN
  obtain ⟨ua, uc, rfl, c1, c2, c3, c4⟩ := h
  have hcm := cap_le c2
  have H4 := Lib.hid c4
  have HG := Lib.hid hg
  have hlm : (ops.length : Int) ≤ 9223372036854775807 := by omega
  have n1 := h0.1
  have n2 := h0.2
  have N0 : (0 : Int) ≤ N := by omega
  have N3 : (N : Int) ≤ 3 := by omega
  clear c4 hg c3 h0 hpg hN3
  go_enter Try.func8, Try.ntmps8
  go_wp2_with fail
  refine (HNEW.out _).mono ?_
  rintro e w1 ⟨b, g, cap, rfl, A1, hb, hg, B1⟩
  have HA1 := Lib.hid A1
  have HB1 := Lib.hid B1
  have HP : Hid (w.heap.size ≤ b ∧ w.heap.size ≤ g) := ⟨hb, hg⟩
  clear A1 B1 hb hg
  unfold tp
  go_wp2_with fail
  refine (HRN.out _).mono ?_
  rintro e w2 ⟨gr, cr, rfl, R2, hgr, B2⟩
  have P0 : Hid (PlOt w w2 b g cap (256 * N) (rowV gr (List.replicate (256 * N) 0) cr)) := by
    have h1 := HA1.out.rw.1
    have h2 := HA1.out.hd.1
    have h3 := HB1.out.size
    have h4 := HP.out
    exact ⟨gr, cr, _, rfl, ⟨are_below HA1.out B2, R2, by omega, by omega, h4.1, h4.2, by omega, b_call HB1.out B2⟩, by rw [List.length_replicate]⟩
  generalize rowV gr (List.replicate (256 * N) 0) cr = rv0 at *
  clear R2 hgr B2 HA1 HB1
  go_wp2_with fail
  go_loopw [7, 23] (fun rv iv wr => ∃ k : Nat, k ≤ ops.length ∧ iv = .int .i64 k ∧ Hid (PlOt w wr b g cap (256 * N) rv)) (fun _ iv _ => ops.length - (intOf iv).toNat)
  case atStart => exact ⟨0, Nat.zero_le _, rfl, P0.out⟩
  case round =>
    obtain ⟨k, hk, rfl, hp⟩ := hrel
    have k0 : (0 : Int) ≤ k := by omega
    obtain ⟨gr, cr, L, rfl, PS, hLN⟩ := hp.out
    have HLN := Lib.hid hLN
    have HPS := Lib.hid PS
    by_cases hlt : k < ops.length
    · obtain ⟨bl, off, rfl, hbl, h4⟩ := H4.out (by omega)
      have k1 : (k : Int) < ops.length := by omega
      obtain ⟨d0, d1, d2, d3, d4, d5, d6⟩ := op17_cells h4 k hlt
      rw [← (bcell PS.bw).1 _ _ hbl] at d0 d1 d2 d3 d4 d5 d6
      have hgo := HG.out _ (List.getElem_mem hlt)
      generalize ops[k] = o at *
      have HST := Lib.hid (fun (w1 : World) (P1 : PlO w w1 b g cap gr cr L) => step17_any P1 o hgo)
      obtain ⟨ok, oa, of, ot, ov, or, on⟩ := o
      simp only at d0 d1 d2 d3 d4 d5 d6 HST
      have HLT := Lib.hid hlt
      by_cases hk40 : k < 40
      · have k2 : (k : Int) < 40 := by omega
        have HPX := Lib.hid (plo_below PS (b_alloc (Below.refl wr.heap.size wr) (.cells #[.int .i64 ok, .int .i64 oa, .int .i64 of, .int .i64 ot, .int .u64 ov, .int .i64 or, .int .i64 on] 78)))
        clear PS hp hlt hk40 hgo h4 hLN
        unfold tp rowV opV at *
        go_wp2_with fail
        refine (HST.out _ HPX.out).mono ?_
        rintro e w3 ⟨g3, c3, L3, rfl, P3, hl3⟩
        have hL3 : L3.length = 256 * N := by rw [hl3]; exact HLN.out
        have e256 : (256 * (N : Int)) = (L3.length : Int) := by rw [hL3]; omega
        have e0 : inE L3.length 0 (256 * (N : Int)) = 0 := by rw [e256]; exact inE_ok (k := 0) (by omega)
        have HLD := Lib.hid (aload_any P3.a 0 (256 * (N : Int)))
        rw [e0] at HLD
        rw [show loadL L3 0 (256 * (N : Int)) = L3 by rw [e256]; exact loadL_all L3] at HLD
        have HP3 := Lib.hid P3
        have HL3 := Lib.hid hL3
        unfold tp at HLD
        clear P3 hl3 hL3 e256 e0 d0 d1 d2 d3 d4 d5 d6
        unfold rowV
        go_wp2_with fail
        refine HLD.out.mono ?_
        rintro e w4 ⟨v4, rfl, hrd, hb4, hnew⟩
        obtain ⟨g4, c4, rfl, R4, _⟩ := hnew (by trivial)
        have P4 := plo_below HP3.out hb4
        have CV1 := conv_read (row_read R4) R4.by_
        have CV2 := conv_read (row_read P4.r) P4.r.by_
        have HP4 := Lib.hid P4
        generalize bstr L3 = s at *
        clear P4 R4 hb4 hrd hnew
        unfold rowV at *
        go_wp2_with fail
        exact ⟨⟨k + 1, HLT.out, by go_num, ⟨g3, c3, L3, rfl, HP4.out, HL3.out⟩⟩, by simp only [intOf]; have := HLT.out; omega⟩
      · have k2 : (40 : Int) ≤ k := by omega
        have HB9 := Lib.hid (b_alloc PS.bw (.cells #[.int .i64 ok, .int .i64 oa, .int .i64 of, .int .i64 ot, .int .u64 ov, .int .i64 or, .int .i64 on] 78))
        clear PS hp hgo h4 hLN HPS HST
        go_wp2_with fail
        refine (awake17_any _).mono ?_
        rintro e w4 ⟨rfl, hb4⟩
        go_wp2_with fail
        go_ret
        exact ⟨rfl, b_call HB9.out hb4⟩
    · have HB9 := Lib.hid PS.bw
      clear PS hp HPS
      go_wp2_with fail
      refine (awake17_any _).mono ?_
      rintro e w4 ⟨rfl, hb4⟩
      go_wp2_with fail
      go_ret
      exact ⟨rfl, b_call HB9.out hb4⟩
end Go.Proofs.Ytgbbnmjfkhconaa
