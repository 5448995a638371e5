/- Layer 34: the program's wide. Conditions: those stated. UNDER WAY. -/
import Derived.Test.YtedmjlhgpdeafaaDoorPAsmI
import Derived.Test.YtedmjlhgpdeafaaDoorPAsmH
namespace Go.Proofs.YtedmjlhgpdeafaaDoor
open Go.RowKit
set_option linter.unusedVariables false
set_option linter.unusedSimpArgs false
theorem hexL_at : ∀ (k v j : Nat), j < k → (hexL k v)[j]? = some (hexD (v / 16 ^ (k - 1 - j) % 16))
  | 0, v, j, h => by omega
  | k + 1, v, j, h => by
    unfold hexL
    by_cases q : j < k
    · rw [List.getElem?_append_left (by rw [hexL_len]; exact q), hexL_at k (v / 16) j q, Nat.div_div_eq_div_mul, show k + 1 - 1 - j = (k - 1 - j) + 1 by omega, Nat.pow_succ, Nat.mul_comm 16]
    · have e : j = k := by omega
      subst e
      rw [List.getElem?_append_right (by rw [hexL_len]; exact Nat.le_refl _), hexL_len, Nat.sub_self, show j + 1 - 1 - j = 0 by omega, Nat.pow_zero, Nat.div_one]; rfl
theorem u64_and15 (n : Int) (h : 0 ≤ n) (h' : n < 18446744073709551616) : bits .and .u64 n 15 = n % 16 := by
  have h15 : (BitVec.ofInt 64 15).toNat = 2 ^ 4 - 1 := by decide
  have key : (BitVec.ofInt 64 n &&& BitVec.ofInt 64 15).toNat = (n % ((2 ^ 64 : Nat) : Int)).toNat % 2 ^ 4 := by
    rw [BitVec.toNat_and, BitVec.toNat_ofInt, h15, Nat.and_two_pow_sub_one_eq_mod]
  show IntKind.u64.wrap ((BitVec.ofInt 64 n &&& BitVec.ofInt 64 15).toNat : Nat) = n % 16
  rw [key, IntKind.wrap_u64]
  omega
theorem hexB : ∀ d : Fin 16, (⟨#[48, 49, 50, 51, 52, 53, 54, 55, 56, 57, 97, 98, 99, 100, 101, 102]⟩ : ByteArray)[d.val]'(d.isLt) = hexD d.val := by decide
theorem nib (v j : Nat) (hv : v < 18446744073709551616) : bits .and .u64 ((v : Int) / 2 ^ (4 * (15 - j))) 15 = ((v / 16 ^ (15 - j) % 16 : Nat) : Int) := by
  have e : ((v : Int) / 2 ^ (4 * (15 - j))) = ((v / 16 ^ (15 - j) : Nat) : Int) := by
    rw [show (16 : Nat) = 2 ^ 4 from rfl, ← Nat.pow_mul]
    simp
  have hle : v / 16 ^ (15 - j) ≤ v := Nat.div_le_self _ _
  rw [e]
  generalize v / 16 ^ (15 - j) = y at *
  rw [u64_and15 _ (by omega) (by omega)]
  omega
set_option maxRecDepth 100000 in
set_option maxHeartbeats 1000000 in
theorem awide_any (v : Nat) (hv : v < 18446744073709551616) (w : World) : Calls Tryd.prog 37 #[.int .u64 (v : Int)] w fun e w' => e = .returned (strV ([48, 120] ++ hexL 16 v)) ∧ Below w.heap.size w w' := by
  have HV := Lib.hid hv
  clear hv
  go_enter Tryd.func37, Tryd.ntmps37
  go_upto_region 2 with fail
  refine wp_named ?_
  intro W1 hW1
  have HB1 : Hid (Below w.heap.size w W1) := Lib.hid (by rw [hW1]; exact b_alloc (Below.refl _ _) _)
  have HF1 : Hid (Lib.IsBuilderF 88 5 w.heap.size w.heap.size [] W1) := Lib.hid (by rw [hW1]; exact Lib.IsBuilderF.of (Lib.fresh_isBuilder 88 5 w))
  clear hW1
  go_wp2_with fail
  refine (Tryd.Builder_WriteString w.heap.size w.heap.size _ _ _ HF1.out (by show (0 : Nat) + 2 ≤ _; omega) HB1.out.size).mono ?_
  rintro e w2 ⟨rfl, hB2, hb2, _⟩
  have HF2 : Hid (Lib.IsBuilderF 88 5 w.heap.size w.heap.size (Lib.byteCells ([48, 120] ++ (hexL 16 v).take 0)) w2) := Lib.hid (Or.inr hB2)
  have HB2 : Hid (Below w.heap.size w w2) := Lib.hid (HB1.out.trans hb2)
  clear hB2 hb2
  go_wp2_with fail
  go_loopw [4] (fun i wr => ∃ j : Nat, j ≤ 16 ∧ i = .int .i64 (15 - (j : Int)) ∧ Hid (Lib.IsBuilderF 88 5 w.heap.size w.heap.size (Lib.byteCells ([48, 120] ++ (hexL 16 v).take j)) wr) ∧ Hid (Below w.heap.size w wr)) (fun i _ => (intOf i + 1).toNat)
  case atStart => exact ⟨0, by omega, rfl, HF2, HB2⟩
  case round =>
    obtain ⟨j, hj, rfl, HF, HB⟩ := hrel
    by_cases hlt : j < 16
    · have j0 : (0 : Int) ≤ 15 - (j : Int) := by omega
      have HNB := nib v j HV.out
      have HLT := Lib.hid hlt
      have HS0 := Lib.hid (hexL_at 16 v j hlt)
      have hd : v / 16 ^ (15 - j) % 16 < 16 := Nat.mod_lt _ (by omega)
      have HLB : Hid ((Lib.byteCells ([48, 120] ++ (hexL 16 v).take j)).length ≤ 18) := Lib.hid (by rw [Lib.byteCells_length, List.length_append, List.length_take, hexL_len]; simp; omega)
      have HDD : Hid (v / 16 ^ (16 - 1 - j) % 16 = v / 16 ^ (15 - j) % 16) := Lib.hid rfl
      generalize v / 16 ^ (15 - j) % 16 = d at *
      have hd0 : (0 : Int) ≤ d := by omega
      have hd1 : (d : Int) < 16 := by omega
      have hsz := HB.out.size
      go_wp2_with fail
      refine (Tryd.Builder_WriteByte w.heap.size w.heap.size _ _ _ HF.out (by have := HLB.out; omega) hsz).mono ?_
      rintro e w3 ⟨rfl, hB3, hb3, _⟩
      have HB3 : Hid (Below w.heap.size w w3) := Lib.hid (HB.out.trans hb3)
      have HF3 := Lib.hid hB3
      clear hB3 hb3
      have HX : Hid (Lib.byteCells ([48, 120] ++ (hexL 16 v).take (j + 1)) = Lib.byteCells ([48, 120] ++ (hexL 16 v).take j) ++ [.int .u8 ((hexD d).toNat : Int)]) := Lib.hid (by
        have q := HS0.out
        rw [List.take_add_one, q]
        unfold Lib.byteCells
        rw [← List.append_assoc, List.map_append (l₁ := [48, 120] ++ List.take j (hexL 16 v))]; rfl)
      have HY := Lib.hid (hexB ⟨d, hd⟩)
      go_wp2_with fail
      go_roundw
      case rel => exact ⟨j + 1, by have := HLT.out; omega, congrArg (Value.int .i64) (by omega), Lib.hid (by rw [HX.out, ← HY.out]; exact Or.inr HF3.out), HB3⟩
      case measure => have := HLT.out; simp [intOf]; omega
    · have j0 : (15 - (j : Int)) < 0 := by omega
      have hsz := HB.out.size
      have HFE : Hid (Lib.IsBuilderF 88 5 w.heap.size w.heap.size (Lib.byteCells ([48, 120] ++ hexL 16 v)) wr) := Lib.hid (by have q := HF.out; rw [List.take_of_length_le (by rw [hexL_len]; omega)] at q; exact q)
      go_wp2_with fail
      refine (Tryd.Builder_String_any_k w.heap.size w.heap.size _ _ HFE.out hsz).mono ?_
      rintro e w3 ⟨rfl, _, hb3, _⟩
      have HB3 : Hid (Below w.heap.size w w3) := Lib.hid (HB.out.trans hb3)
      clear hb3
      go_wp2_with fail
      go_ret
      exact ⟨rfl, HB3.out⟩
end Go.Proofs.YtedmjlhgpdeafaaDoor
