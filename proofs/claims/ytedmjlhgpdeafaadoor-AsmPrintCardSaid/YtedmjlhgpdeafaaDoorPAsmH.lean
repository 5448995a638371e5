/- Layer 34: the program's digits. Conditions: those stated. -/
import Derived.Test.YtedmjlhgpdeafaaDoorPAsmV
namespace Go.Proofs.YtedmjlhgpdeafaaDoor
open Go.RowKit
set_option linter.unusedVariables false
set_option linter.unusedSimpArgs false
def okN (x b : Value) : Nat := match b with | .bool true => (intOf x).toNat + 1 | _ => 0
theorem dig_cut : ∀ d : Fin 10, (⟨#[48, 49, 50, 51, 52, 53, 54, 55, 56, 57, 97, 98, 99, 100, 101, 102]⟩ : ByteArray).extract d.val (d.val + 1) = ⟨#[dig d.val]⟩ := by decide
set_option maxRecDepth 100000 in
set_option maxHeartbeats 1000000 in
theorem adigits_any (n : Nat) (hn : n ≤ 65535) (w : World) : Calls Tryd.prog 38 #[.int .i64 (n : Int)] w fun e w' => e = .returned (strV (numL n)) ∧ w = w' := by
  have HLN : Hid ((numL n).length ≤ 5) := Lib.hid (numL_len 4 n (by omega))
  obtain ⟨T, hT⟩ : ∃ T, T = numL n := ⟨_, rfl⟩
  rw [← hT] at HLN ⊢
  have HT := Lib.hid hT
  have HN := Lib.hid hn
  clear hT hn
  go_enter Tryd.func38, Tryd.ntmps38
  go_wp2_with fail
  go_loopw [0, 3, 4] (fun a s b wr => wr = w ∧ ∃ x : Nat, x ≤ 65535 ∧ a = .int .i64 x ∧ ∃ l : List UInt8, s = strV l ∧ ∃ bb : Bool, b = .bool bb ∧ Hid (T = (if bb = true then numL x else []) ++ l)) (fun a _ b _ => okN a b)
  case atStart => exact ⟨rfl, n, HN.out, rfl, [], rfl, true, rfl, Lib.hid (by rw [HT.out]; simp)⟩
  case round =>
    obtain ⟨rfl, x, hx, rfl, l, rfl, bb, rfl, HL⟩ := hrel
    unfold strV
    have hx0 : (0 : Int) ≤ x := by omega
    cases bb with
    | false =>
      have HE : Hid (T = l) := Lib.hid (by rw [HL.out]; rfl)
      go_wp2_with fail
      go_ret
      exact ⟨by rw [HE.out]; rfl, rfl⟩
    | true =>
      have ht : (x : Int).tmod 10 = ((x % 10 : Nat) : Int) := by rw [Int.tmod_eq_emod_of_nonneg (by omega)]; omega
      have hd : (x : Int).tdiv 10 = ((x / 10 : Nat) : Int) := by rw [Int.tdiv_eq_ediv_of_nonneg (by omega)]; omega
      have hq : x % 10 < 10 := by omega
      have hll : l.length ≤ 5 := by
        have q := congrArg List.length HL.out
        rw [List.length_append] at q
        have := HLN.out
        omega
      have hcut := dig_cut ⟨x % 10, hq⟩
      simp only at hcut
      by_cases h10 : x < 10
      · have HE : Hid (T = [] ++ (dig (x % 10) :: l)) := Lib.hid (by rw [HL.out, if_pos rfl, numL_lt h10, Nat.mod_eq_of_lt h10]; rfl)
        have hz : x / 10 = 0 := by omega
        have HX := Lib.hid hx
        generalize x % 10 = d at *
        generalize x / 10 = y at *
        subst hz
        clear HL
        go_wp2_with fail
        exact ⟨⟨trivial, 0, by omega, rfl, dig d :: l, congrArg Value.string (ba_append [dig d] l), false, rfl, Lib.hid HE.out⟩, by show 0 < _ + 1; omega⟩
      · have HE : Hid (T = numL (x / 10) ++ (dig (x % 10) :: l)) := Lib.hid (by rw [HL.out, if_pos rfl, numL_ge h10, List.append_assoc]; rfl)
        have hy : x / 10 < x := by omega
        have hy2 : (0 : Int) < ((x / 10 : Nat) : Int) := by omega
        have hy3 : x / 10 ≤ 65535 := by omega
        generalize x % 10 = d at *
        generalize x / 10 = y at *
        clear HL h10
        go_wp2_with fail
        exact ⟨⟨trivial, y, hy3, rfl, dig d :: l, congrArg Value.string (ba_append [dig d] l), true, by rw [decide_eq_true (show 0 < y by omega)], Lib.hid (by rw [if_pos rfl]; exact HE.out)⟩, by rw [decide_eq_true (show 0 < y by omega)]; show (y : Int).toNat + 1 < (x : Int).toNat + 1; omega⟩
end Go.Proofs.YtedmjlhgpdeafaaDoor
