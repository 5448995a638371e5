/- Layer 34: the document's num, digit, value, wide. Conditions: those stated. -/
import Derived.Test.YtedmjlhgpdeafaaDoorPAsmL
import Derived.Test.YtedmjlhgpdeafaaDoorPBytes
import Derived.Test.YtedmjlhgpdeafaaDoorPBase
import Derived.Test.YtedmjlhgpdeafaaDoorPInts
import Derived.Deep.DeepCutAuto
namespace Go.Proofs.YtedmjlhgpdeafaaDoor
open Go.RowKit
set_option linter.unusedVariables false
set_option linter.unusedSimpArgs false
/-- One byte as a string. -/
theorem conv_one (w : World) (c : UInt8) (x : Int) (hx : x = (c.toNat : Int)) : (convert 51 9 (.slice (some ⟨w.heap.size, 0, none⟩) 1 1)).run Tryd.prog (w.alloc (.cells #[.int .u8 x] 5)) = .ok (.string ⟨#[c]⟩) (w.alloc (.cells #[.int .u8 x] 5)) := by
  have h := run_convert_bytes_back (P := Tryd.prog) (w.alloc (.cells #[.int .u8 x] 5)) 51 9 5 ⟨w.heap.size, 0, none⟩ 1 [c] under_byts Tryd.underlying5 Tryd.underlying9 (fun j hj => by
    have hj0 : j = 0 := by simpa using hj
    subst hj0
    rw [hx, Addr.add_lit]
    simp)
  exact h
theorem ba_append (a b : List UInt8) : (⟨a.toArray⟩ : ByteArray) ++ ⟨b.toArray⟩ = ⟨(a ++ b).toArray⟩ := by
  apply ByteArray.ext
  simp
theorem take_snoc {l : List UInt8} {k : Nat} (h : k < l.length) : l.take (k + 1) = l.take k ++ [l[k]] := by
  rw [List.take_succ_eq_append_getElem h]
theorem split_at {l : List UInt8} {k : Nat} (h : k < l.length) : l = l.take k ++ l[k] :: l.drop (k + 1) := by
  rw [← List.drop_eq_getElem_cons h, List.take_append_drop]
set_option maxRecDepth 100000 in
theorem rnum_any (n : Nat) : n ≤ 1000000 → ∀ w : World, Calls Tryd.prog 24 #[.int .i64 n] w fun e w' => e = .returned (strV (numL n)) ∧ Below w.heap.size w w' := by
  induction n using Nat.strongRecOn with
  | ind n ih =>
    intro hn w
    have h0 : (0 : Int) ≤ n := by omega
    have h1 : (n : Int) ≤ 1000000 := by omega
    have hc := conv_one w (dig (n % 10)) (48 + (n : Int) % 10) (by rw [dig_nat (by omega)]; omega)
    have hr : (n : Int).tmod 10 = (n : Int) % 10 := Int.tmod_eq_emod_of_nonneg h0
    have hq : (n : Int).tdiv 10 = ((n / 10 : Nat) : Int) := by rw [Int.tdiv_eq_ediv_of_nonneg h0]; omega
    by_cases hlt : n < 10
    · have hl : (n : Int) < 10 := by omega
      have HE := Lib.hid (numL_lt hlt)
      go_enter Tryd.func24, Tryd.ntmps24
      go_wp2_with fail
      go_ret
      refine ⟨?_, b_alloc (Below.refl _ _) _⟩
      rw [HE.out, show n % 10 = n by omega]; rfl
    · have hl : ¬ (n : Int) < 10 := by omega
      have HE := Lib.hid (numL_ge hlt)
      have HI := Lib.hid (ih (n / 10) (by omega) (by omega))
      have hlen := numL_len 6 (n / 10) (by omega)
      generalize numL (n / 10) = y at *
      clear ih
      go_enter Tryd.func24, Tryd.ntmps24
      go_wp2_with fail
      refine (HI.out _).mono ?_
      rintro e w1 ⟨rfl, hb1⟩
      unfold strV
      go_wp2_with fail
      go_ret
      refine ⟨?_, b_call (b_alloc (Below.refl _ _) _) hb1⟩
      rw [HE.out]
      first | rfl | exact congrArg (fun x => Ending.returned (Value.string x)) (ba_append _ _)
theorem hexS_cut : ∀ d : Fin 16, (⟨#[48, 49, 50, 51, 52, 53, 54, 55, 56, 57, 97, 98, 99, 100, 101, 102]⟩ : ByteArray).extract d.val (d.val + 1) = ⟨#[hexD d.val]⟩ := by decide
set_option maxRecDepth 100000 in
set_option maxHeartbeats 1000000 in
theorem rwide_any (v : Nat) (hv : v < 18446744073709551616) (w : World) : Calls Tryd.prog 42 #[.int .u64 v] w fun e w' => e = .returned (strV ([48, 120] ++ hexL 16 v)) ∧ w = w' := by
  obtain ⟨T, hT⟩ : ∃ T, T = hexL 16 v := ⟨_, rfl⟩
  rw [← hT]
  have HT := Lib.hid hT
  clear hT
  have HV := Lib.hid hv
  clear hv
  go_enter Tryd.func42, Tryd.ntmps42
  go_wp2_with fail
  go_loopw [0, 3, 4] (fun a b i wr => wr = w ∧ ∃ k : Nat, k ≤ 16 ∧ i = .int .i64 k ∧ ∃ x : Nat, x < 18446744073709551616 ∧ a = .int .u64 x ∧ ∃ l : List UInt8, b = strV l ∧ Hid (T = hexL (16 - k) x ++ l)) (fun _ _ i _ => 16 - (intOf i).toNat)
  case atStart => exact ⟨rfl, 0, by omega, rfl, v, HV.out, rfl, [], rfl, Lib.hid (by rw [HT.out, List.append_nil])⟩
  case round =>
    obtain ⟨rfl, k, hk, rfl, x, hx, rfl, l, rfl, HL⟩ := hrel
    unfold strV
    have hx0 : (0 : Int) ≤ x := by omega
    have hm0 : (x : Int) % 16 = ((x % 16 : Nat) : Int) := by omega
    have hm1 : (x : Int).tmod 16 = ((x % 16 : Nat) : Int) := by rw [Int.tmod_eq_emod_of_nonneg hx0]; exact hm0
    have hd1 : (x : Int).tdiv 16 = ((x / 16 : Nat) : Int) := by rw [Int.tdiv_eq_ediv_of_nonneg hx0]; omega
    have hq : x % 16 < 16 := by omega
    have HS : Hid (k < 16 → hexL (16 - k) x = hexL (16 - (k + 1)) (x / 16) ++ [hexD (x % 16)]) := Lib.hid (fun h => by
      rw [show 16 - k = (16 - (k + 1)) + 1 by omega]; rfl)
    have hxt := hexS_cut ⟨x % 16, hq⟩
    simp only at hxt
    generalize x % 16 = d at *
    have hx4 : x / 16 < 18446744073709551616 := by omega
    generalize x / 16 = y at *
    have HL1 : Hid (l.length ≤ 16) := Lib.hid (by
      have q := congrArg List.length HL.out
      rw [HT.out, List.length_append, hexL_len, hexL_len] at q
      omega)
    have hll := HL1.out
    by_cases hlt : k < 16
    · go_wp2_with fail
      exact ⟨⟨trivial, k + 1, by omega, by first | rfl | go_num, y, hx4, rfl, hexD d :: l, congrArg Value.string (ba_append [hexD d] l), Lib.hid (by rw [HL.out, HS.out hlt, List.append_assoc]; rfl)⟩, by simp [intOf] <;> omega⟩
    · have e : T = l := by
        rw [HL.out, show 16 - k = 0 by omega]; rfl
      have HE := Lib.hid e
      clear e
      go_wp2_with fail
      go_ret
      refine ⟨?_, rfl⟩
      rw [HE.out]
      exact congrArg (fun x => Ending.returned (Value.string x)) (ba_append [48, 120] l)
end Go.Proofs.YtedmjlhgpdeafaaDoor
