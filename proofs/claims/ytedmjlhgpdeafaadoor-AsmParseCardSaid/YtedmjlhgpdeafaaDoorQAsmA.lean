/- Layer 34: the document's num, digit, value, wide. Conditions: those stated. -/
import Derived.Test.YtedmjlhgpdeafaaDoorQAsmL
import Derived.Test.YtedmjlhgpdeafaaDoorQBytes
import Derived.Test.YtedmjlhgpdeafaaDoorQBase
import Derived.Test.YtedmjlhgpdeafaaDoorQInts
import Derived.Deep.DeepCutAuto
namespace Go.Proofs.YtedmjlhgpdeafaaDoor
open Go.RowKit
set_option linter.unusedVariables false
set_option linter.unusedSimpArgs false
/-- One byte as a string. -/
theorem conv_one (w : World) (c : UInt8) (x : Int) (hx : x = (c.toNat : Int)) : (convert 51 9 (.slice (some ⟨w.heap.size, 0, none⟩) 1 1)).run Tryd.prog (w.alloc (.cells #[.int .u8 x] 5)) = .ok (.string ⟨#[c]⟩) (w.alloc (.cells #[.int .u8 x] 5)) := by
  have h := run_convert_bytes_back (P := Tryd.prog) (w.alloc (.cells #[.int .u8 x] 5)) 51 9 5 ⟨w.heap.size, 0, none⟩ 1 [c] under_byts Tryd.underlying5 Tryd.underlying9 (fun j hj => by
    have hj0 : j = 0 := by simpa using hj
    subst hj0
    rw [hx, Addr.add_lit]
    simp)
  exact h
theorem ba_append (a b : List UInt8) : (⟨a.toArray⟩ : ByteArray) ++ ⟨b.toArray⟩ = ⟨(a ++ b).toArray⟩ := by
  apply ByteArray.ext
  simp
theorem take_snoc {l : List UInt8} {k : Nat} (h : k < l.length) : l.take (k + 1) = l.take k ++ [l[k]] := by
  rw [List.take_succ_eq_append_getElem h]
theorem split_at {l : List UInt8} {k : Nat} (h : k < l.length) : l = l.take k ++ l[k] :: l.drop (k + 1) := by
  rw [← List.drop_eq_getElem_cons h, List.take_append_drop]
set_option maxRecDepth 100000 in
theorem rnum_any (n : Nat) : n ≤ 1000000 → ∀ w : World, Calls Tryd.prog 24 #[.int .i64 n] w fun e w' => e = .returned (strV (numL n)) ∧ Below w.heap.size w w' := by
  induction n using Nat.strongRecOn with
  | ind n ih =>
    intro hn w
    have h0 : (0 : Int) ≤ n := by omega
    have h1 : (n : Int) ≤ 1000000 := by omega
    have hc := conv_one w (dig (n % 10)) (48 + (n : Int) % 10) (by rw [dig_nat (by omega)]; omega)
    have hr : (n : Int).tmod 10 = (n : Int) % 10 := Int.tmod_eq_emod_of_nonneg h0
    have hq : (n : Int).tdiv 10 = ((n / 10 : Nat) : Int) := by rw [Int.tdiv_eq_ediv_of_nonneg h0]; omega
    by_cases hlt : n < 10
    · have hl : (n : Int) < 10 := by omega
      have HE := Lib.hid (numL_lt hlt)
      go_enter Tryd.func24, Tryd.ntmps24
      go_wp2_with fail
      go_ret
      refine ⟨?_, b_alloc (Below.refl _ _) _⟩
      rw [HE.out, show n % 10 = n by omega]; rfl
    · have hl : ¬ (n : Int) < 10 := by omega
      have HE := Lib.hid (numL_ge hlt)
      have HI := Lib.hid (ih (n / 10) (by omega) (by omega))
      have hlen := numL_len 6 (n / 10) (by omega)
      generalize numL (n / 10) = y at *
      clear ih
      go_enter Tryd.func24, Tryd.ntmps24
      go_wp2_with fail
      refine (HI.out _).mono ?_
      rintro e w1 ⟨rfl, hb1⟩
      unfold strV
      go_wp2_with fail
      go_ret
      refine ⟨?_, b_call (b_alloc (Below.refl _ _) _) hb1⟩
      rw [HE.out]
      first | rfl | exact congrArg (fun x => Ending.returned (Value.string x)) (ba_append _ _)
set_option maxRecDepth 100000 in
theorem rval_any (l : List UInt8) (w : World) (hl : l.length ≤ 1000000) : Calls Tryd.prog 68 #[strV l] w fun e w' => e = .returned (.int .i64 (match valL l with | some n => (n : Int) | none => -1)) ∧ Below w.heap.size w w' := by
  unfold strV
  obtain ⟨R, hR⟩ : ∃ R : Int, R = (match valL l with | some n => (n : Int) | none => -1) := ⟨_, rfl⟩
  rw [← hR]
  have HR := Lib.hid hR
  clear hR
  go_enter Tryd.func68, Tryd.ntmps68
  go_wp2_with fail
  go_loopw [3, 4] (fun a i wr => wr = w ∧ ∃ k : Nat, k ≤ l.length ∧ i = .int .i64 k ∧ ∃ x : Nat, x ≤ 99999 ∧ a = .int .i64 x ∧ Hid (decV (l.take k) 0 = some x ∧ k ≤ 5)) (fun _ i _ => l.length - (intOf i).toNat)
  case atStart => exact ⟨rfl, 0, Nat.zero_le _, rfl, 0, by omega, rfl, Lib.hid ⟨by rw [List.take_zero]; rfl, by omega⟩⟩
  case round =>
    obtain ⟨rfl, k, hk, rfl, x, hx, rfl, HD⟩ := hrel
    have hx0 : (0 : Int) ≤ x := by omega
    have hx1 : (x : Int) ≤ 99999 := by omega
    by_cases hlt : k < l.length
    · obtain ⟨c, hc⟩ : ∃ c, (⟨l.toArray⟩ : ByteArray)[k]'(by show k < l.toArray.size; simpa using hlt) = c := ⟨_, rfl⟩
      have HC : Hid (l[k] = c) := Lib.hid hc
      have HBAD : Hid (digV c = none → R = -1) := Lib.hid (fun h => by
        rw [HR.out, valL_bad]
        rw [split_at hlt, decV_append, HD.out.1]
        show (digV l[k]).bind _ = none
        rw [HC.out, h]; rfl)
      have HGO : Hid (48 ≤ (c.toNat : Int) → (c.toNat : Int) ≤ 57 → decV (l.take (k + 1)) 0 = some (10 * x + (c.toNat - 48))) := Lib.hid (fun h1 h2 => by
        rw [take_snoc hlt, decV_snoc, HD.out.1, HC.out]
        show (digV c).bind _ = _
        unfold digV
        rw [if_pos (by omega)]; rfl)
      have HLT := Lib.hid hlt
      have HBIG : Hid (5 ≤ k → R = -1) := Lib.hid (fun h => by rw [HR.out, valL_long (by omega)])
      have HNO : Hid ((c.toNat : Int) < 48 ∨ 57 < (c.toNat : Int) → digV c = none) := Lib.hid (fun h => by unfold digV; rw [if_neg (by omega)])
      have HK5 := Lib.hid HD.out.2
      by_cases hx4 : k ≤ 4
      · have hxx : Hid (x ≤ 9999) := Lib.hid (by
          have q := decV_bound _ _ _ HD.out.1
          rw [List.length_take] at q
          have : (0 + 1) * 10 ^ (min k l.length) ≤ 10 ^ 4 := by
            rw [Nat.zero_add, Nat.one_mul]
            exact Nat.pow_le_pow_right (by omega) (by omega)
          omega)
        go_wp2_with fail
        case roundEnd =>
          rename_i h1 h2 h3
          refine ⟨⟨trivial, k + 1, by omega, by first | rfl | go_num, 10 * x + (c.toNat - 48), by have := hxx.out; omega, ?_, Lib.hid ⟨HGO.out (by omega) (by omega), by omega⟩⟩, by simp [intOf]; omega⟩
          refine congrArg (Value.int .i64) ?_
          omega
        all_goals go_ret
        all_goals refine ⟨?_, Below.refl _ _⟩
        all_goals first
          | (rw [HBAD.out (HNO.out (by omega))]; rfl)
          | (exfalso; omega)
      · go_wp2_with fail
        all_goals go_ret
        all_goals refine ⟨?_, Below.refl _ _⟩
        all_goals (rw [HBIG.out (by omega)]; rfl)
    · have HL : Hid (decV l 0 = some x ∧ l.length ≤ 5) := by
        have : k = l.length := by omega
        rw [this, List.take_length] at HD
        exact HD
      have hl5 := HL.out.2
      clear HD
      by_cases h0 : l = []
      · subst h0
        have HE : Hid (R = -1) := Lib.hid (by rw [HR.out, valL_nil])
        go_wp2_with fail
        go_ret
        exact ⟨by rw [HE.out]; rfl, Below.refl _ _⟩
      · have h1 : 0 < l.length := Nat.pos_of_ne_zero (fun q => h0 (List.eq_nil_of_length_eq_zero q))
        have HE : Hid (R = if x ≤ 65535 ∧ numL x = l then (x : Int) else -1) := Lib.hid (by
          rw [HR.out]
          unfold valL
          rw [if_pos HL.out.2, HL.out.1]
          show (match (if x ≤ 65535 ∧ numL x = l then some x else none) with | some n => (n : Int) | none => -1) = _
          by_cases q : x ≤ 65535 ∧ numL x = l
          · rw [if_pos q, if_pos q]
          · rw [if_neg q, if_neg q])
        by_cases hbig : 65535 < (x : Int)
        · go_wp2_with fail
          go_ret
          exact ⟨by rw [HE.out, if_neg (by omega)]; rfl, Below.refl _ _⟩
        · have HN := Lib.hid (rnum_any x (by omega))
          have he0 : l.isEmpty = false := by cases l with
            | nil => exact absurd rfl h0
            | cons => rfl
          obtain ⟨y, hy⟩ : ∃ y, numL x = y := ⟨_, rfl⟩
          rw [hy] at HN HE
          clear hy
          cases he : (y == l) with
          | true =>
            have HY : Hid (y = l) := Lib.hid (by simpa using he)
            go_wp2_with fail
            refine (HN.out _).mono ?_
            rintro e w1 ⟨rfl, hb1⟩
            unfold strV
            go_wp2_with fail
            go_ret
            exact ⟨by rw [HE.out, if_pos ⟨by omega, HY.out⟩]; rfl, hb1⟩
          | false =>
            have HY : Hid (¬ y = l) := Lib.hid (by simpa using he)
            go_wp2_with fail
            refine (HN.out _).mono ?_
            rintro e w1 ⟨rfl, hb1⟩
            unfold strV
            go_wp2_with fail
            go_ret
            exact ⟨by rw [HE.out, if_neg (fun q => HY.out q.2)]; rfl, hb1⟩
theorem hexS_cut : ∀ d : Fin 16, (⟨#[48, 49, 50, 51, 52, 53, 54, 55, 56, 57, 97, 98, 99, 100, 101, 102]⟩ : ByteArray).extract d.val (d.val + 1) = ⟨#[hexD d.val]⟩ := by decide
set_option maxRecDepth 100000 in
set_option maxHeartbeats 1000000 in
theorem rwide_any (v : Nat) (hv : v < 18446744073709551616) (w : World) : Calls Tryd.prog 42 #[.int .u64 v] w fun e w' => e = .returned (strV ([48, 120] ++ hexL 16 v)) ∧ w = w' := by
  obtain ⟨T, hT⟩ : ∃ T, T = hexL 16 v := ⟨_, rfl⟩
  rw [← hT]
  have HT := Lib.hid hT
  clear hT
  have HV := Lib.hid hv
  clear hv
  go_enter Tryd.func42, Tryd.ntmps42
  go_wp2_with fail
  go_loopw [0, 3, 4] (fun a b i wr => wr = w ∧ ∃ k : Nat, k ≤ 16 ∧ i = .int .i64 k ∧ ∃ x : Nat, x < 18446744073709551616 ∧ a = .int .u64 x ∧ ∃ l : List UInt8, b = strV l ∧ Hid (T = hexL (16 - k) x ++ l)) (fun _ _ i _ => 16 - (intOf i).toNat)
  case atStart => exact ⟨rfl, 0, by omega, rfl, v, HV.out, rfl, [], rfl, Lib.hid (by rw [HT.out, List.append_nil])⟩
  case round =>
    obtain ⟨rfl, k, hk, rfl, x, hx, rfl, l, rfl, HL⟩ := hrel
    unfold strV
    have hx0 : (0 : Int) ≤ x := by omega
    have hm0 : (x : Int) % 16 = ((x % 16 : Nat) : Int) := by omega
    have hm1 : (x : Int).tmod 16 = ((x % 16 : Nat) : Int) := by rw [Int.tmod_eq_emod_of_nonneg hx0]; exact hm0
    have hd1 : (x : Int).tdiv 16 = ((x / 16 : Nat) : Int) := by rw [Int.tdiv_eq_ediv_of_nonneg hx0]; omega
    have hq : x % 16 < 16 := by omega
    have HS : Hid (k < 16 → hexL (16 - k) x = hexL (16 - (k + 1)) (x / 16) ++ [hexD (x % 16)]) := Lib.hid (fun h => by
      rw [show 16 - k = (16 - (k + 1)) + 1 by omega]; rfl)
    have hxt := hexS_cut ⟨x % 16, hq⟩
    simp only at hxt
    generalize x % 16 = d at *
    have hx4 : x / 16 < 18446744073709551616 := by omega
    generalize x / 16 = y at *
    have HL1 : Hid (l.length ≤ 16) := Lib.hid (by
      have q := congrArg List.length HL.out
      rw [HT.out, List.length_append, hexL_len, hexL_len] at q
      omega)
    have hll := HL1.out
    by_cases hlt : k < 16
    · go_wp2_with fail
      exact ⟨⟨trivial, k + 1, by omega, by first | rfl | go_num, y, hx4, rfl, hexD d :: l, congrArg Value.string (ba_append [hexD d] l), Lib.hid (by rw [HL.out, HS.out hlt, List.append_assoc]; rfl)⟩, by simp [intOf] <;> omega⟩
    · have e : T = l := by
        rw [HL.out, show 16 - k = 0 by omega]; rfl
      have HE := Lib.hid e
      clear e
      go_wp2_with fail
      go_ret
      refine ⟨?_, rfl⟩
      rw [HE.out]
      exact congrArg (fun x => Ending.returned (Value.string x)) (ba_append [48, 120] l)
end Go.Proofs.YtedmjlhgpdeafaaDoor
