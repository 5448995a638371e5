/- Layer 34: the program's kinds. Conditions: those stated. -/
import Derived.Test.YtedmjlhgpdeafaaDoorPAsmV
import Derived.Test.YtedmjlhgpdeafaaDoorPShelfC
namespace Go.Proofs.YtedmjlhgpdeafaaDoor
open Go.RowKit
set_option linter.unusedVariables false
set_option linter.unusedSimpArgs false
set_option maxRecDepth 100000 in
set_option maxHeartbeats 1000000 in
theorem akinds_any (u : Value) (xs : List Int) (w : World) (h : ReadI w u xs) (hk : ∀ k ∈ xs, 0 ≤ k ∧ k ≤ 3) (hl : xs.length ≤ 1000) : Calls Tryd.prog 46 #[u] w fun e w' => e = .returned (strV (kindsL xs)) ∧ Below w.heap.size w w' := by
  obtain ⟨a, cap, rfl⟩ := readI_len h
  by_cases h0 : xs = []
  · subst h0
    have HE : Hid (kindsL [] = [45]) := Lib.hid rfl
    clear h
    go_enter Tryd.func46, Tryd.ntmps46
    go_wp2_with fail
    go_ret
    exact ⟨by rw [HE.out]; rfl, Below.refl _ _⟩
  · have hpos : 0 < xs.length := List.length_pos_iff.2 h0
    obtain ⟨b, o, c2, e1, r1, r2, hb, r4⟩ := readI_pos h hpos
    injection e1 with e1 _ e3
    subst e1 e3
    have HE : Hid (kindsL xs = xs.map kindD) := Lib.hid (by unfold kindsL; rw [if_neg h0])
    have HK := Lib.hid hk
    have HR := Lib.hid r4
    have hi0 : ((xs.length : Int) == 0) = false := beq_false_of_ne (by omega)
    have hcm := cap_le r2
    clear h r4 hk h0
    go_enter Tryd.func46, Tryd.ntmps46
    go_upto_region 4 with fail
    refine wp_named ?_
    intro W1 hW1
    have HB1 : Hid (Below w.heap.size w W1) := Lib.hid (by rw [hW1]; exact b_alloc (Below.refl _ _) _)
    have HF1 : Hid (Lib.IsBuilderF 88 5 w.heap.size w.heap.size (Lib.byteCells ((xs.take 0).map kindD)) W1) := Lib.hid (by rw [hW1]; exact Lib.IsBuilderF.of (Lib.fresh_isBuilder 88 5 w))
    clear hW1
    go_wp2_with fail
    go_loopw [11] (fun i wr => ∃ k : Nat, k ≤ xs.length ∧ i = .int .i64 k ∧ Hid (Lib.IsBuilderF 88 5 w.heap.size w.heap.size (Lib.byteCells ((xs.take k).map kindD)) wr) ∧ Hid (Below w.heap.size w wr)) (fun i _ => xs.length - (intOf i).toNat)
    case atStart => exact ⟨0, Nat.zero_le _, rfl, HF1, HB1⟩
    case round =>
      obtain ⟨k, hkk, rfl, HF, HB⟩ := hrel
      have hk0 : (0 : Int) ≤ k := by omega
      have hsz := HB.out.size
      by_cases hlt : k < xs.length
      · have k1 : (k : Int) < xs.length := by omega
        have c0 : wr.cell? ⟨b, o + k, none⟩ = some (.int .i64 (xs.getD k 0)) := ((bcell HB.out).1 _ _ hb).trans (HR.out k hlt)
        have hx : 0 ≤ xs.getD k 0 ∧ xs.getD k 0 ≤ 3 := by
          rw [List.getD_eq_getElem?_getD, List.getElem?_eq_getElem hlt]
          exact HK.out _ (List.getElem_mem hlt)
        have HS : Hid (Lib.byteCells ((xs.take (k + 1)).map kindD) = Lib.byteCells ((xs.take k).map kindD) ++ [.int .u8 ((kindD (xs.getD k 0)).toNat : Int)]) := Lib.hid (by
          rw [List.take_succ_eq_append_getElem hlt, List.map_append, List.getD_eq_getElem?_getD, List.getElem?_eq_getElem hlt]
          unfold Lib.byteCells
          rw [List.map_append]; rfl)
        have HLT := Lib.hid hlt
        have HLB : Hid ((Lib.byteCells ((xs.take k).map kindD)).length ≤ 1000) := Lib.hid (by rw [Lib.byteCells_length, List.length_map, List.length_take]; omega)
        generalize xs.getD k 0 = x at *
        rcases (show x = 0 ∨ x = 1 ∨ x = 2 ∨ x = 3 by omega) with rfl | rfl | rfl | rfl
        all_goals
          clear hx
          go_wp2_with fail
          refine (Tryd.Builder_WriteByte w.heap.size w.heap.size _ _ _ HF.out (by have := HLB.out; omega) hsz).mono ?_
          rintro e w3 ⟨rfl, hB3, hb3, _⟩
          have HF3 := Lib.hid hB3
          have HB3 : Hid (Below w.heap.size w w3) := Lib.hid (HB.out.trans hb3)
          clear hB3 hb3
          go_wp2_with fail
          go_roundw
          case rel => exact ⟨k + 1, by have := HLT.out; omega, by first | rfl | trivial | go_num, Lib.hid (by rw [HS.out]; exact Or.inr HF3.out), HB3⟩
          case measure => have := HLT.out; simp [intOf]; omega
      · have k1 : (xs.length : Int) ≤ k := by omega
        have HFE : Hid (Lib.IsBuilderF 88 5 w.heap.size w.heap.size (Lib.byteCells (xs.map kindD)) wr) := Lib.hid (by have q := HF.out; rw [List.take_of_length_le (by omega)] at q; exact q)
        go_wp2_with fail
        refine (Tryd.Builder_String_any_k w.heap.size w.heap.size _ _ HFE.out hsz).mono ?_
        rintro e w3 ⟨rfl, _, hb3, _⟩
        have HB3 : Hid (Below w.heap.size w w3) := Lib.hid (HB.out.trans hb3)
        clear hb3
        go_wp2_with fail
        go_ret
        exact ⟨by rw [HE.out]; rfl, HB3.out⟩
end Go.Proofs.YtedmjlhgpdeafaaDoor
