/- Layer 34: the program's small, number, list, op. Conditions: those stated. -/
import Derived.Test.YtedmjlhgpdeafaaDoorQAsmA
import Derived.Test.YtedmjlhgpdeafaaDoorQAsmM
import Derived.Test.YtedmjlhgpdeafaaDoorQShelf
import Derived.Test.YtedmjlhgpdeafaaDoorQInstrName
import Derived.Laws.Bits64b
namespace Go.Proofs.YtedmjlhgpdeafaaDoor
open Go.RowKit
set_option linter.unusedVariables false
set_option linter.unusedSimpArgs false
theorem u8_back (c : UInt8) : ((c.toNat : Int).toNat.toUInt8) = c := by
  show UInt8.ofNat _ = c
  rw [Int.toNat_natCast, UInt8.ofNat_toNat]
theorem idx_any (l : List UInt8) (c : UInt8) (w : World) : Calls Tryd.prog 72 #[.string ⟨l.toArray⟩, .int .u8 (c.toNat : Int)] w fun e w' => e = .returned (.int .i64 (Lib.indexByte l c)) ∧ w = w' := by
  have q := Tryd.strings_IndexByte ⟨l.toArray⟩ (c.toNat : Int) w
  rw [u8_back] at q
  exact q.mono fun e w' h => ⟨h.1, h.2.symm⟩
set_option maxRecDepth 100000 in
set_option maxHeartbeats 2000000 in
theorem asmall_any (l : List UInt8) (w : World) (hl : l.length ≤ 1000000) : Calls Tryd.prog 73 #[strV l] w fun e w' => (∃ x : Int, e = .returned (.tuple #[.int .i64 x, .bool (valL l).isSome]) ∧ ∀ n, valL l = some n → x = n) ∧ w = w' := by
  unfold strV
  by_cases h0 : l = []
  · subst h0
    have HE := Lib.hid valL_nil
    go_enter Tryd.func73, Tryd.ntmps73
    go_wp2_with fail
    go_ret2
    exact ⟨⟨0, by rw [HE.out]; rfl, fun n hn => by rw [HE.out] at hn; cases hn⟩, rfl⟩
  have hl0 : 0 < l.length := Nat.pos_of_ne_zero (fun q => h0 (List.eq_nil_of_length_eq_zero q))
  obtain ⟨c0, hc0⟩ : ∃ c, (⟨l.toArray⟩ : ByteArray)[0]'(by show 0 < l.toArray.size; simpa using hl0) = c := ⟨_, rfl⟩
  have HC0 : Hid (l.head? = some c0) := Lib.hid (by
    cases l with
    | nil => exact absurd rfl h0
    | cons a r => exact congrArg some hc0)
  by_cases h5 : 5 < l.length
  · have HE := Lib.hid (valL_long h5)
    have hi5 : (5 : Int) < l.length := by omega
    go_enter Tryd.func73, Tryd.ntmps73
    go_wp2_with fail
    go_ret2
    exact ⟨⟨0, by rw [HE.out]; rfl, fun n hn => by rw [HE.out] at hn; cases hn⟩, rfl⟩
  have hi5 : (l.length : Int) ≤ 5 := by omega
  have hn0 : ((l.length : Int) == 0) = false := beq_false_of_ne (by omega)
  by_cases hq : 1 < l.length
  · have hiq : (1 : Int) < l.length := by omega
    by_cases h48 : (c0.toNat : Int) = 48
    · have hb48 : ((c0.toNat : Int) == 48) = true := beq_iff_eq.2 h48
      have HE : Hid (valL l = none) := Lib.hid (valL_lead hq (by rw [HC0.out]; exact congrArg some (UInt8.toNat_inj.1 (by show c0.toNat = 48; omega))))
      go_enter Tryd.func73, Tryd.ntmps73
      go_wp2_with fail
      go_ret2
      exact ⟨⟨0, by rw [HE.out]; rfl, fun n hn => by rw [HE.out] at hn; cases hn⟩, rfl⟩
    · have hb48 : ((c0.toNat : Int) == 48) = false := beq_false_of_ne h48
      have HV : Hid (∀ n, decV l 0 = some n → valL l = if n ≤ 65535 then some n else none) := Lib.hid (fun n hn => valL_num h0 (by omega) (fun q => by
        have q2 := q.2
        rw [HC0.out] at q2
        injection q2 with q2
        exact h48 (by rw [q2]; rfl)) hn)
      go_enter Tryd.func73, Tryd.ntmps73
      go_wp2_with fail
      go_loopw [4, 26] (fun a i wr => wr = w ∧ ∃ k : Nat, k ≤ l.length ∧ i = .int .i64 k ∧ ∃ x : Nat, x ≤ 99999 ∧ a = .int .i64 x ∧ Hid (decV (l.take k) 0 = some x)) (fun _ i _ => l.length - (intOf i).toNat)
      case atStart => exact ⟨rfl, 0, Nat.zero_le _, rfl, 0, by omega, rfl, Lib.hid (by rw [List.take_zero]; rfl)⟩
      case round =>
        obtain ⟨rfl, k, hk, rfl, x, hx, rfl, HD⟩ := hrel
        have hx0 : (0 : Int) ≤ x := by omega
        have hx1 : (x : Int) ≤ 99999 := by omega
        by_cases hlt : k < l.length
        · obtain ⟨c, hc⟩ : ∃ c, (⟨l.toArray⟩ : ByteArray)[k]'(by show k < l.toArray.size; simpa using hlt) = c := ⟨_, rfl⟩
          have HC : Hid (l[k] = c) := Lib.hid hc
          have HBAD : Hid (digV c = none → valL l = none) := Lib.hid (fun h => by
            rw [valL_bad]
            rw [split_at hlt, decV_append, HD.out]
            show (digV l[k]).bind _ = none
            rw [HC.out, h]; rfl)
          have HGO : Hid (48 ≤ (c.toNat : Int) → (c.toNat : Int) ≤ 57 → decV (l.take (k + 1)) 0 = some (10 * x + (c.toNat - 48))) := Lib.hid (fun h1 h2 => by
            rw [take_snoc hlt, decV_snoc, HD.out, HC.out]
            show (digV c).bind _ = _
            unfold digV
            rw [if_pos (by omega)]; rfl)
          have HLT := Lib.hid hlt
          have HNO : Hid ((c.toNat : Int) < 48 ∨ 57 < (c.toNat : Int) → digV c = none) := Lib.hid (fun h => by unfold digV; rw [if_neg (by omega)])
          have hxx : Hid (x ≤ 9999) := Lib.hid (by
            have q := decV_bound _ _ _ HD.out
            rw [List.length_take] at q
            have : (0 + 1) * 10 ^ (min k l.length) ≤ 10 ^ 4 := by
              rw [Nat.zero_add, Nat.one_mul]
              exact Nat.pow_le_pow_right (by omega) (by omega)
            omega)
          go_wp2_with fail
          case roundEnd =>
            refine ⟨⟨trivial, k + 1, by have := HLT.out; omega, by first | rfl | go_num, 10 * x + (c.toNat - 48), by have := hxx.out; omega, ?_, Lib.hid (HGO.out (by omega) (by omega))⟩, by have := HLT.out; simp [intOf]; omega⟩
            refine congrArg (Value.int .i64) ?_
            omega
          all_goals go_ret2
          all_goals refine ⟨⟨0, ?_, fun n hn => ?_⟩, rfl⟩
          all_goals have hz := HBAD.out (HNO.out (by omega))
          all_goals first
            | (rw [hz]; rfl)
            | (rw [hz] at hn; cases hn)
        · have HL : Hid (valL l = if x ≤ 65535 then some x else none) := Lib.hid (HV.out x (by
            have : k = l.length := by omega
            rw [this, List.take_length] at HD
            exact HD.out))
          by_cases hq : (x : Int) ≤ 65535
          · go_wp2_with fail
            go_ret2
            refine ⟨⟨x, ?_, fun n hn => ?_⟩, rfl⟩
            · rw [HL.out, if_pos (by omega)]; rfl
            · rw [HL.out, if_pos (by omega)] at hn; injection hn with hn; rw [hn]
          · go_wp2_with fail
            go_ret2
            refine ⟨⟨x, ?_, fun n hn => ?_⟩, rfl⟩
            · rw [HL.out, if_neg (by omega)]; rfl
            · rw [HL.out, if_neg (by omega)] at hn; cases hn
  · have hiq : (l.length : Int) ≤ 1 := by omega
    have HV : Hid (∀ n, decV l 0 = some n → valL l = if n ≤ 65535 then some n else none) := Lib.hid (fun n hn => valL_num h0 (by omega) (fun q => hq q.1) hn)
    go_enter Tryd.func73, Tryd.ntmps73
    go_wp2_with fail
    go_loopw [4, 26] (fun a i wr => wr = w ∧ ∃ k : Nat, k ≤ l.length ∧ i = .int .i64 k ∧ ∃ x : Nat, x ≤ 99999 ∧ a = .int .i64 x ∧ Hid (decV (l.take k) 0 = some x)) (fun _ i _ => l.length - (intOf i).toNat)
    case atStart => exact ⟨rfl, 0, Nat.zero_le _, rfl, 0, by omega, rfl, Lib.hid (by rw [List.take_zero]; rfl)⟩
    case round =>
      obtain ⟨rfl, k, hk, rfl, x, hx, rfl, HD⟩ := hrel
      have hx0 : (0 : Int) ≤ x := by omega
      have hx1 : (x : Int) ≤ 99999 := by omega
      by_cases hlt : k < l.length
      · obtain ⟨c, hc⟩ : ∃ c, (⟨l.toArray⟩ : ByteArray)[k]'(by show k < l.toArray.size; simpa using hlt) = c := ⟨_, rfl⟩
        have HC : Hid (l[k] = c) := Lib.hid hc
        have HBAD : Hid (digV c = none → valL l = none) := Lib.hid (fun h => by
          rw [valL_bad]
          rw [split_at hlt, decV_append, HD.out]
          show (digV l[k]).bind _ = none
          rw [HC.out, h]; rfl)
        have HGO : Hid (48 ≤ (c.toNat : Int) → (c.toNat : Int) ≤ 57 → decV (l.take (k + 1)) 0 = some (10 * x + (c.toNat - 48))) := Lib.hid (fun h1 h2 => by
          rw [take_snoc hlt, decV_snoc, HD.out, HC.out]
          show (digV c).bind _ = _
          unfold digV
          rw [if_pos (by omega)]; rfl)
        have HLT := Lib.hid hlt
        have HNO : Hid ((c.toNat : Int) < 48 ∨ 57 < (c.toNat : Int) → digV c = none) := Lib.hid (fun h => by unfold digV; rw [if_neg (by omega)])
        have hxx : Hid (x ≤ 9999) := Lib.hid (by
          have q := decV_bound _ _ _ HD.out
          rw [List.length_take] at q
          have : (0 + 1) * 10 ^ (min k l.length) ≤ 10 ^ 4 := by
            rw [Nat.zero_add, Nat.one_mul]
            exact Nat.pow_le_pow_right (by omega) (by omega)
          omega)
        go_wp2_with fail
        case roundEnd =>
          refine ⟨⟨trivial, k + 1, by have := HLT.out; omega, by first | rfl | go_num, 10 * x + (c.toNat - 48), by have := hxx.out; omega, ?_, Lib.hid (HGO.out (by omega) (by omega))⟩, by have := HLT.out; simp [intOf]; omega⟩
          refine congrArg (Value.int .i64) ?_
          omega
        all_goals go_ret2
        all_goals refine ⟨⟨0, ?_, fun n hn => ?_⟩, rfl⟩
        all_goals have hz := HBAD.out (HNO.out (by omega))
        all_goals first
          | (rw [hz]; rfl)
          | (rw [hz] at hn; cases hn)
      · have HL : Hid (valL l = if x ≤ 65535 then some x else none) := Lib.hid (HV.out x (by
          have : k = l.length := by omega
          rw [this, List.take_length] at HD
          exact HD.out))
        by_cases hq : (x : Int) ≤ 65535
        · go_wp2_with fail
          go_ret2
          refine ⟨⟨x, ?_, fun n hn => ?_⟩, rfl⟩
          · rw [HL.out, if_pos (by omega)]; rfl
          · rw [HL.out, if_pos (by omega)] at hn; injection hn with hn; rw [hn]
        · go_wp2_with fail
          go_ret2
          refine ⟨⟨x, ?_, fun n hn => ?_⟩, rfl⟩
          · rw [HL.out, if_neg (by omega)]; rfl
          · rw [HL.out, if_neg (by omega)] at hn; cases hn
theorem pre_take (l : List UInt8) : Lib.hasPrefix l [48, 120] = decide (l.take 2 = [48, 120]) := by
  unfold Lib.hasPrefix
  match l with
  | [] => rfl
  | [a] => simp [List.isPrefixOf]
  | a :: b :: r =>
    show ((48 == a) && ((120 == b) && true)) = decide ([a, b] = [48, 120])
    by_cases h1 : a = 48
    · by_cases h2 : b = 120
      · subst h1 h2; rfl
      · rw [decide_eq_false (fun q => h2 (by injection q with _ q; injection q))]
        rw [show ((120 : UInt8) == b) = false from beq_false_of_ne (fun q => h2 q.symm)]
        simp
    · rw [decide_eq_false (fun q => h1 (by injection q))]
      rw [show ((48 : UInt8) == a) = false from beq_false_of_ne (fun q => h1 q.symm)]
      simp
theorem shl4 (x d : Nat) (hx : x < 1152921504606846976) (hd : d < 16) : bits .or .u64 (IntKind.u64.wrap ((x : Int) * 16)) (d : Int) = ((16 * x + d : Nat) : Int) := by
  have e : IntKind.u64.wrap ((x : Int) * 16) = ((2 ^ 4 * x : Nat) : Int) := by
    rw [IntKind.wrap_u64]
    omega
  rw [e, bits_or_u64_nat _ _ (by omega) (by omega), ← Nat.two_pow_add_eq_or_of_lt (by omega)]
set_option maxRecDepth 100000 in
set_option maxHeartbeats 2000000 in
theorem anumber_any (l : List UInt8) (w : World) (hl : l.length ≤ 1000000) : Calls Tryd.prog 103 #[strV l] w fun e w' => (∃ x : Int, e = .returned (.tuple #[.int .u64 x, .bool (bitsL l).isSome]) ∧ ∀ n, bitsL l = some n → x = n) ∧ w = w' := by
  unfold strV
  have HP := Lib.hid (fun w => Tryd.strings_CutPrefix ⟨l.toArray⟩ ⟨#[48, 120]⟩ w)
  have hpt := pre_take l
  cases hp : Lib.hasPrefix l [48, 120] with
  | false =>
    have HE : Hid (bitsL l = none) := Lib.hid (by
      rw [hp] at hpt
      unfold bitsL
      rw [if_neg]
      intro q
      rw [decide_eq_true q.2] at hpt
      cases hpt)
    clear hpt
    go_enter Tryd.func103, Tryd.ntmps103
    go_wp2_with fail
    refine (HP.out _).mono ?_
    rintro e w1 ⟨rfl, rfl⟩
    have hp2 : Lib.hasPrefix (⟨l.toArray⟩ : ByteArray).data.toList (⟨#[48, 120]⟩ : ByteArray).data.toList = false := hp
    rw [hp2]
    generalize Lib.trimPrefix _ _ = rr
    go_wp2_with fail
    go_ret2
    exact ⟨⟨0, by rw [HE.out]; rfl, fun n hn => by rw [HE.out] at hn; cases hn⟩, rfl⟩
  | true =>
    rw [hp] at hpt
    have ht2 := of_decide_eq_true hpt.symm
    obtain ⟨r, hr⟩ : ∃ r, r = l.drop 2 := ⟨_, rfl⟩
    have hlr : l.length = r.length + 2 := by
      rw [hr, List.length_drop]
      have := congrArg List.length ht2
      rw [List.length_take] at this
      simp at this
      omega
    have HB : Hid (bitsL l = if r.length = 16 then hexN r 0 else none) := Lib.hid (by
      unfold bitsL
      rw [← hr]
      by_cases q : r.length = 16
      · rw [if_pos q, if_pos ⟨by omega, ht2⟩]
      · rw [if_neg q, if_neg (fun z => q (by omega))])
    have HTP : Hid (Lib.trimPrefix (⟨l.toArray⟩ : ByteArray).data.toList (⟨#[48, 120]⟩ : ByteArray).data.toList = r) := Lib.hid (by
      show Lib.trimPrefix l [48, 120] = r
      unfold Lib.trimPrefix
      rw [hp, hr]; rfl)
    have hp2 : Lib.hasPrefix (⟨l.toArray⟩ : ByteArray).data.toList (⟨#[48, 120]⟩ : ByteArray).data.toList = true := hp
    have HLR := Lib.hid hlr
    clear hpt ht2 hr hlr hp
    by_cases h16 : r.length = 16
    · have hi16 : ((r.length : Int) != 16) = false := by simp; omega
      have HE : Hid (bitsL l = hexN r 0) := Lib.hid (by rw [HB.out, if_pos h16])
      have H16 := Lib.hid h16
      go_enter Tryd.func103, Tryd.ntmps103
      go_wp2_with fail
      refine (HP.out _).mono ?_
      rintro e w1 ⟨rfl, rfl⟩
      rw [hp2, HTP.out]
      have hrl : r.length ≤ 16 := by omega
      clear h16
      go_wp2_with fail
      go_loopw [6, 23] (fun a i wr => wr = w1 ∧ ∃ k : Nat, k ≤ r.length ∧ i = .int .i64 k ∧ ∃ x : Nat, x < 18446744073709551616 ∧ a = .int .u64 x ∧ Hid (hexN (r.take k) 0 = some x)) (fun _ i _ => r.length - (intOf i).toNat)
      case atStart => exact ⟨rfl, 0, Nat.zero_le _, rfl, 0, by omega, rfl, Lib.hid (by rw [List.take_zero]; rfl)⟩
      case round =>
        obtain ⟨rfl, k, hk, rfl, x, hx, rfl, HD⟩ := hrel
        have hx0 : (0 : Int) ≤ x := by omega
        by_cases hlt : k < r.length
        · obtain ⟨c, hc⟩ : ∃ c, (⟨r.toArray⟩ : ByteArray)[k]'(by show k < r.toArray.size; simpa using hlt) = c := ⟨_, rfl⟩
          have HC : Hid (r[k] = c) := Lib.hid hc
          have HLT := Lib.hid hlt
          have HXX : Hid (x < 1152921504606846976) := Lib.hid (by
            have q := hexN_bound _ _ _ HD.out
            rw [List.length_take] at q
            have : (0 + 1) * 16 ^ (min k r.length) ≤ 16 ^ 15 := by
              rw [Nat.zero_add, Nat.one_mul]
              exact Nat.pow_le_pow_right (by omega) (by have := H16.out; omega)
            omega)
          cases hv : hexV c with
          | none =>
            have HI : Hid (∀ w, Calls Tryd.prog 72 #[.string ⟨#[48, 49, 50, 51, 52, 53, 54, 55, 56, 57, 97, 98, 99, 100, 101, 102]⟩, .int .u8 (c.toNat : Int)] w fun e w' => e = .returned (.int .i64 (-1)) ∧ w = w') := Lib.hid (fun w => by
              have q := idx_any hexS c w
              rw [hexV_ix, hv] at q
              exact q)
            have HBAD : Hid (bitsL l = none) := Lib.hid (by
              rw [HE.out, split_at hlt, hexN_append, HD.out]
              show (hexV r[k]).bind _ = none
              have z : hexV r[k] = none := (congrArg hexV HC.out).trans hv
              rw [z]; rfl)
            go_wp2_with fail
            refine (HI.out _).mono ?_
            rintro e w2 ⟨rfl, rfl⟩
            go_wp2_with fail
            go_ret2
            exact ⟨⟨0, by rw [HBAD.out]; rfl, fun n hn => by rw [HBAD.out] at hn; cases hn⟩, rfl⟩
          | some dd =>
            have HI : Hid (∀ w, Calls Tryd.prog 72 #[.string ⟨#[48, 49, 50, 51, 52, 53, 54, 55, 56, 57, 97, 98, 99, 100, 101, 102]⟩, .int .u8 (c.toNat : Int)] w fun e w' => e = .returned (.int .i64 (dd : Int)) ∧ w = w') := Lib.hid (fun w => by
              have q := idx_any hexS c w
              rw [hexV_ix, hv] at q
              exact q)
            have hdd := hexV_lt hv
            have hd0 : (0 : Int) ≤ dd := by omega
            go_wp2_with fail
            refine (HI.out _).mono ?_
            rintro e w2 ⟨rfl, rfl⟩
            have HSH := shl4 x dd HXX.out hdd
            have HNX : Hid (hexN (r.take (k + 1)) 0 = some (16 * x + dd)) := Lib.hid (by
              rw [take_snoc hlt, hexN_snoc, HD.out]
              show (hexV r[k]).bind _ = _
              have z : hexV r[k] = some dd := (congrArg hexV HC.out).trans hv
              rw [z]; rfl)
            go_wp2_with fail
            exact ⟨⟨trivial, k + 1, by have := HLT.out; omega, by first | rfl | go_num, 16 * x + dd, by have := HXX.out; omega, congrArg (Value.int .u64) (by omega), HNX⟩, by have := HLT.out; simp [intOf] <;> omega⟩
        · have HL : Hid (bitsL l = some x) := Lib.hid (by
            rw [HE.out]
            have : k = r.length := by omega
            rw [this, List.take_length] at HD
            exact HD.out)
          go_wp2_with fail
          go_ret2
          exact ⟨⟨x, by rw [HL.out]; rfl, fun n hn => by rw [HL.out] at hn; injection hn with hn; rw [hn]⟩, rfl⟩
    · have HE : Hid (bitsL l = none) := Lib.hid (by rw [HB.out, if_neg h16])
      have hi16 : ((r.length : Int) != 16) = true := by simp; omega
      go_enter Tryd.func103, Tryd.ntmps103
      go_wp2_with fail
      refine (HP.out _).mono ?_
      rintro e w1 ⟨rfl, rfl⟩
      rw [hp2, HTP.out]
      go_wp2_with fail
      go_ret2
      exact ⟨⟨0, by rw [HE.out]; rfl, fun n hn => by rw [HE.out] at hn; cases hn⟩, rfl⟩
set_option maxRecDepth 100000 in
set_option maxHeartbeats 2000000 in
theorem alist_any (l : List UInt8) (h0 : l ≠ []) (w : World) (hl : l.length ≤ 1000000) : Calls Tryd.prog 54 #[strV l] w fun e w' => (∃ (a : Option Addr) (n c : Nat), e = .returned (.tuple #[.slice a n c, .bool (listL l).isSome]) ∧ ∀ ks, listL l = some ks → OwnI w' w.heap.size (.slice a n c) ks) ∧ Below w.heap.size w w' := by
  unfold strV
  have hl0 : 0 < l.length := Nat.pos_of_ne_zero (fun q => h0 (List.eq_nil_of_length_eq_zero q))
  cases hd : (l == [45]) with
  | true =>
    have HE : Hid (listL l = some []) := Lib.hid (by unfold listL; rw [if_pos (by simpa using hd)])
    go_enter Tryd.func54, Tryd.ntmps54
    go_wp2_with fail
    go_ret2
    exact ⟨⟨_, _, _, by rw [HE.out]; rfl, fun ks hk => by rw [HE.out] at hk; injection hk with hk; rw [← hk]; exact ownI_nil _ _⟩, Below.refl _ _⟩
  | false =>
    have HK : Hid (listL l = kindP l) := Lib.hid (by unfold listL; rw [if_neg (by simpa using hd)])
    have HL0 := Lib.hid hl0
    go_enter Tryd.func54, Tryd.ntmps54
    go_wp2_with fail
    go_loopw [4, 11] (fun a i wr => ∃ k : Nat, k ≤ l.length ∧ i = .int .i64 k ∧ ∃ ks : List Int, Hid (kindP (l.take k) = some ks) ∧ OwnI wr w.heap.size a ks ∧ Below w.heap.size w wr) (fun _ i _ => l.length - (intOf i).toNat)
    case atStart => exact ⟨0, Nat.zero_le _, rfl, [], Lib.hid (by rw [List.take_zero]; rfl), ownI_nil _ _, Below.refl _ _⟩
    case round =>
      obtain ⟨k, hk, rfl, ks, HD, hown, hb⟩ := hrel
      obtain ⟨a4, c4, e4⟩ := readI_len (ownI_read hown)
      subst e4
      have HLN : Hid (ks.length = k) := Lib.hid (by
        have q := kindP_len HD.out
        rw [List.length_take] at q
        omega)
      by_cases hlt : k < l.length
      · obtain ⟨c, hc⟩ : ∃ c, (⟨l.toArray⟩ : ByteArray)[k]'(by show k < l.toArray.size; simpa using hlt) = c := ⟨_, rfl⟩
        have HC : Hid (l[k] = c) := Lib.hid hc
        have HLT := Lib.hid hlt
        cases hv : kindC c with
        | none =>
          have HI : Hid (∀ w, Calls Tryd.prog 72 #[.string ⟨#[105, 102, 114, 112]⟩, .int .u8 (c.toNat : Int)] w fun e w' => e = .returned (.int .i64 (-1)) ∧ w = w') := Lib.hid (fun w => by
            have q := idx_any kindS c w
            rw [kindC_ix, hv] at q
            exact q)
          have HBAD : Hid (listL l = none) := Lib.hid (by
            rw [HK.out, split_at hlt, kindP_append, HD.out]
            show ((kindC l[k]).bind _).bind _ = none
            have z : kindC l[k] = none := (congrArg kindC HC.out).trans hv
            rw [z]; rfl)
          have hb2 := Lib.hid hb
          clear hb hown
          go_wp2_with fail
          refine (HI.out _).mono ?_
          rintro e w2 ⟨rfl, rfl⟩
          go_wp2_with fail
          go_ret2
          exact ⟨⟨_, _, _, by rw [HBAD.out]; rfl, fun ks hk => by rw [HBAD.out] at hk; cases hk⟩, hb2.out⟩
        | some dd =>
          have HI : Hid (∀ w, Calls Tryd.prog 72 #[.string ⟨#[105, 102, 114, 112]⟩, .int .u8 (c.toNat : Int)] w fun e w' => e = .returned (.int .i64 dd) ∧ w = w') := Lib.hid (fun w => by
            have q := idx_any kindS c w
            rw [kindC_ix, hv] at q
            exact q)
          obtain ⟨hd0, hd3⟩ := kindC_bd hv
          have HNX : Hid (kindP (l.take (k + 1)) = some (ks ++ [dd])) := Lib.hid (by
            rw [take_snoc hlt, kindP_snoc, HD.out]
            show (kindC l[k]).bind _ = _
            have z : kindC l[k] = some dd := (congrArg kindC HC.out).trans hv
            rw [z]; rfl)
          have hs := hb.size
          go_wp2_with fail
          refine (HI.out _).mono ?_
          rintro e w2 ⟨rfl, rfl⟩
          go_wp2_with (at_builtin; refine appendI rfl _ _ rfl w.heap.size _ ks rfl (ownI_alloc hown _) _ [dd] rfl (read_one wr dd) ?c1 ?c2 ?_; (case c1 => (have := HLN.out; simp only [List.length_cons, List.length_nil]; omega)); (case c2 => (simp only [World.size_alloc]; omega)); intro v3 w3 hown3 hg3)
          have hb3 : Below w.heap.size w w3 := b_own (b_alloc hb _) (ownI_alloc hown _) hg3
          clear hg3
          have HO3 := Lib.hid hown3
          have HB3 := Lib.hid hb3
          clear hown3 hb3 hown hb
          go_wp2_with fail
          exact ⟨⟨k + 1, by have := HLT.out; omega, by first | rfl | go_num, ks ++ [dd], HNX, HO3.out, HB3.out⟩, by have := HLT.out; simp [intOf] <;> omega⟩
      · have HE : Hid (listL l = some ks) := Lib.hid (by
          rw [HK.out]
          have : k = l.length := by omega
          rw [this, List.take_length] at HD
          exact HD.out)
        have hks : 0 < ks.length := by have := HLN.out; have := HL0.out; omega
        have HO := Lib.hid hown
        have HB := Lib.hid hb
        clear hown hb
        go_wp2_with fail
        go_ret2
        exact ⟨⟨_, _, _, by rw [HE.out]; rfl, fun ks' hk' => by rw [HE.out] at hk'; injection hk' with hk'; rw [← hk']; exact HO.out⟩, HB.out⟩
set_option maxRecDepth 100000 in
set_option maxHeartbeats 2000000 in
theorem aop_any (l : List UInt8) (w : World) : Calls Tryd.prog 102 #[strV l] w fun e w' => e = .returned (.tuple #[.int .i64 (((opL l).getD 0 : Nat) : Int), .bool (opL l).isSome]) ∧ Below w.heap.size w w' := by
  unfold strV
  obtain ⟨R, hR⟩ : ∃ R, R = opL l := ⟨_, rfl⟩
  rw [← hR]
  have HR : Hid (R = opGo l 0 37) := Lib.hid hR
  clear hR
  go_enter Tryd.func102, Tryd.ntmps102
  go_wp2_with fail
  go_loopw [5] (fun i wr => ∃ k : Nat, k ≤ 37 ∧ i = .int .i64 k ∧ Hid (R = opGo l k (37 - k)) ∧ Hid (Below w.heap.size w wr)) (fun i _ => 37 - (intOf i).toNat)
  case atStart => exact ⟨0, by omega, rfl, HR, Lib.hid (Below.refl _ _)⟩
  case round =>
    obtain ⟨k, hk, rfl, HK, HB⟩ := hrel
    have hk0 : (0 : Int) ≤ k := by omega
    by_cases hlt : k < 37
    · have hk1 : (k : Int) < 37 := by omega
      have HN : Hid (∀ w, Calls Tryd.prog 36 #[.int .i64 k] w fun e w' => e = .returned (.string ⟨(nameL k).toArray⟩) ∧ Below w.heap.size w w') := Lib.hid (fun w => by
        have q := name_any (k : Int) w
        have e : (Value.string (nameB (k : Int))) = .string ⟨(nameL k).toArray⟩ := by
          unfold nameB
          rw [if_pos (by omega), Int.toNat_natCast]
          exact strV_of _
        rw [e] at q
        exact q)
      obtain ⟨y, hy⟩ : ∃ y, nameL k = y := ⟨_, rfl⟩
      rw [hy] at HN
      have HG : Hid (R = if y = l then some k else opGo l (k + 1) (37 - (k + 1))) := Lib.hid (by
        rw [HK.out, show 37 - k = (37 - (k + 1)) + 1 by omega, ← hy]; rfl)
      clear hy
      cases he : (y == l) with
      | true =>
        have HE : Hid (R.getD 0 = k ∧ R.isSome = true) := Lib.hid (by rw [HG.out, if_pos (by simpa using he)]; exact ⟨rfl, rfl⟩)
        go_wp2_with fail
        refine (HN.out _).mono ?_
        rintro e w1 ⟨rfl, hb1⟩
        go_wp2_with fail
        go_ret2
        exact ⟨by rw [HE.out.1, HE.out.2]; rfl, b_call HB.out hb1⟩
      | false =>
        have HE : Hid (R = opGo l (k + 1) (37 - (k + 1))) := Lib.hid (by rw [HG.out, if_neg (by simpa using he)])
        go_wp2_with fail
        refine (HN.out _).mono ?_
        rintro e w1 ⟨rfl, hb1⟩
        have HB1 := Lib.hid (b_call HB.out hb1)
        clear hb1
        go_wp2_with fail
        exact ⟨⟨k + 1, by omega, by first | rfl | go_num, HE, HB1⟩, by simp [intOf] <;> omega⟩
    · have HE : Hid (R.getD 0 = 0 ∧ R.isSome = false) := Lib.hid (by rw [HK.out, show 37 - k = 0 by omega]; exact ⟨rfl, rfl⟩)
      go_wp2_with fail
      go_ret2
      exact ⟨by rw [HE.out.1, HE.out.2]; rfl, HB.out⟩
end Go.Proofs.YtedmjlhgpdeafaaDoor
