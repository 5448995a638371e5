/- Layer 34: the document's digit, bits, list, Words. Conditions: those stated. -/
import Derived.Test.YtedmjlhgpdeafaaDoorQAsmU
import Derived.Test.YtedmjlhgpdeafaaDoorQAsmX
namespace Go.Proofs.YtedmjlhgpdeafaaDoor
open Go.RowKit
set_option linter.unusedVariables false
set_option linter.unusedSimpArgs false
def hexI (c : UInt8) : Int := match hexV c with | some d => (d : Int) | none => -1
theorem rdigit_any (c : UInt8) (w : World) : Calls Tryd.prog 100 #[.int .u8 (c.toNat : Int)] w fun e w' => e = .returned (.int .i64 (hexI c)) ∧ w = w' := by
  have hc := c.toNat_lt
  have c0 : (0 : Int) ≤ c.toNat := by omega
  have c1 : (c.toNat : Int) < 256 := by omega
  have HE : Hid (hexI c = if 48 ≤ c.toNat ∧ c.toNat ≤ 57 then (c.toNat : Int) - 48 else if 97 ≤ c.toNat ∧ c.toNat ≤ 102 then (c.toNat : Int) - 97 + 10 else -1) := Lib.hid (by
    unfold hexI hexV
    by_cases h1 : 48 ≤ c.toNat ∧ c.toNat ≤ 57
    · rw [if_pos h1, if_pos h1]; show ((c.toNat - 48 : Nat) : Int) = _; omega
    · rw [if_neg h1, if_neg h1]
      by_cases h2 : 97 ≤ c.toNat ∧ c.toNat ≤ 102
      · rw [if_pos h2, if_pos h2]; show ((c.toNat - 87 : Nat) : Int) = _; omega
      · rw [if_neg h2, if_neg h2])
  generalize c.toNat = n at *
  by_cases h1 : (48 : Int) ≤ n
  · by_cases h2 : (n : Int) ≤ 57
    · have hk : Hid (hexI c = (n : Int) - 48) := Lib.hid (by rw [HE.out, if_pos (by omega)])
      go_enter Tryd.func100, Tryd.ntmps100
      go_wp2_with fail
      go_ret
      exact ⟨by rw [hk.out]; rfl, rfl⟩
    · by_cases h3 : (97 : Int) ≤ n
      · by_cases h4 : (n : Int) ≤ 102
        · have hk : Hid (hexI c = (n : Int) - 97 + 10) := Lib.hid (by rw [HE.out, if_neg (by omega), if_pos (by omega)])
          go_enter Tryd.func100, Tryd.ntmps100
          go_wp2_with fail
          go_ret
          exact ⟨by rw [hk.out]; rfl, rfl⟩
        · have hk : Hid (hexI c = -1) := Lib.hid (by rw [HE.out, if_neg (by omega), if_neg (by omega)])
          go_enter Tryd.func100, Tryd.ntmps100
          go_wp2_with fail
          go_ret
          exact ⟨by rw [hk.out]; rfl, rfl⟩
      · have hk : Hid (hexI c = -1) := Lib.hid (by rw [HE.out, if_neg (by omega), if_neg (by omega)])
        go_enter Tryd.func100, Tryd.ntmps100
        go_wp2_with fail
        go_ret
        exact ⟨by rw [hk.out]; rfl, rfl⟩
  · have hk : Hid (hexI c = -1) := Lib.hid (by rw [HE.out, if_neg (by omega), if_neg (by omega)])
    have h3 : ¬ (97 : Int) ≤ n := by omega
    go_enter Tryd.func100, Tryd.ntmps100
    go_wp2_with fail
    go_ret
    exact ⟨by rw [hk.out]; rfl, rfl⟩
theorem ext2 (l : List UInt8) : (⟨l.toArray⟩ : ByteArray).extract 0 2 = ⟨(l.take 2).toArray⟩ := by
  apply ByteArray.ext
  rw [ByteArray.data_extract]
  show l.toArray.extract 0 2 = _
  rw [List.extract_toArray]
  congr 1
theorem bits_step (x d : Nat) (hx : x < 1152921504606846976) (hd : d < 16) : IntKind.u64.wrap (IntKind.u64.wrap (16 * (x : Int)) + IntKind.u64.wrap (d : Int)) = ((16 * x + d : Nat) : Int) := by
  simp only [IntKind.wrap_u64]
  omega
set_option maxRecDepth 100000 in
set_option maxHeartbeats 2000000 in
theorem rbits_any (l : List UInt8) (w : World) (hl : l.length ≤ 1000000) : Calls Tryd.prog 86 #[strV l] w fun e w' => (∃ x : Int, e = .returned (.tuple #[.int .u64 x, .bool (bitsL l).isSome]) ∧ ∀ n, bitsL l = some n → x = (n : Int)) ∧ w = w' := by
  unfold strV
  by_cases h18 : l.length = 18
  · have i18 : ((l.length : Int) != 18) = false := by simp; omega
    by_cases h2 : l.take 2 = [48, 120]
    · have HE : Hid (bitsL l = hexN (l.drop 2) 0) := Lib.hid (by unfold bitsL; rw [if_pos ⟨h18, h2⟩])
      have b2 : (l.take 2 == [48, 120]) = true := by rw [h2]; rfl
      have x2 := ext2 l
      rw [h2] at x2
      have H18 := Lib.hid h18
      clear h2 b2
      go_enter Tryd.func86, Tryd.ntmps86
      go_wp2_with fail
      go_loopw [4, 5] (fun a i wr => wr = w ∧ ∃ k : Nat, k ≤ 16 ∧ i = .int .i64 ((k : Int) + 2) ∧ ∃ x : Nat, x < 18446744073709551616 ∧ a = .int .u64 x ∧ Hid (hexN ((l.drop 2).take k) 0 = some x)) (fun _ i _ => 18 - (intOf i).toNat)
      case atStart => exact ⟨rfl, 0, by omega, rfl, 0, by omega, rfl, Lib.hid (by rw [List.take_zero]; rfl)⟩
      case round =>
        obtain ⟨rfl, k, hk, rfl, x, hx, rfl, HD⟩ := hrel
        have hx0 : (0 : Int) ≤ x := by omega
        have hd16 : (l.drop 2).length = 16 := by rw [List.length_drop]; omega
        by_cases hlt : k < 16
        · have hlt2 : k + 2 < l.length := by omega
          obtain ⟨c, hc⟩ : ∃ c, (⟨l.toArray⟩ : ByteArray)[k + 2]'(by show k + 2 < l.toArray.size; simpa using hlt2) = c := ⟨_, rfl⟩
          have HC : Hid (l[k + 2] = c) := Lib.hid hc
          have HC2 : Hid ((l.drop 2)[k]'(by omega) = c) := Lib.hid (by rw [List.getElem_drop]; simpa [Nat.add_comm] using HC.out)
          have HLT := Lib.hid hlt
          have HXX : Hid (x < 1152921504606846976) := Lib.hid (by
            have q := hexN_bound _ _ _ HD.out
            rw [List.length_take] at q
            have : (0 + 1) * 16 ^ (min k (l.drop 2).length) ≤ 16 ^ 15 := by
              rw [Nat.zero_add, Nat.one_mul]
              exact Nat.pow_le_pow_right (by omega) (by omega)
            omega)
          have k18 : (k : Int) + 2 < 18 := by omega
          have kl : (k : Int) + 2 < l.length := by omega
          have k0 : (0 : Int) ≤ (k : Int) + 2 := by omega
          have ki : ((k : Int) + 2).toNat = k + 2 := by omega
          have HDG := Lib.hid (fun w => rdigit_any c w)
          go_wp2_with fail
          refine (HDG.out _).mono ?_
          rintro e w2 ⟨rfl, rfl⟩
          cases hv : hexV c with
          | none =>
            have HBAD : Hid (bitsL l = none) := Lib.hid (by
              rw [HE.out, split_at (show k < (l.drop 2).length by omega), hexN_append, HD.out]
              show (hexV _).bind _ = none
              have z : hexV ((l.drop 2)[k]'(by omega)) = none := (congrArg hexV HC2.out).trans hv
              rw [z]; rfl)
            have hxi : hexI c = -1 := by unfold hexI; rw [hv]
            rw [hxi]
            go_wp2_with fail
            go_ret2
            exact ⟨⟨0, by rw [HBAD.out]; rfl, fun n hn => by rw [HBAD.out] at hn; cases hn⟩, rfl⟩
          | some dd =>
            have hdd := hexV_lt hv
            have hd0 : (0 : Int) ≤ dd := by omega
            have hxi : hexI c = (dd : Int) := by unfold hexI; rw [hv]
            rw [hxi]
            have HNX : Hid (hexN ((l.drop 2).take (k + 1)) 0 = some (16 * x + dd)) := Lib.hid (by
              rw [take_snoc (show k < (l.drop 2).length by omega), hexN_snoc, HD.out]
              show (hexV _).bind _ = _
              have z : hexV ((l.drop 2)[k]'(by omega)) = some dd := (congrArg hexV HC2.out).trans hv
              rw [z]; rfl)
            clear hxi
            have HHX := Lib.hid hx
            clear hx
            go_wp2_with fail
            go_roundw
            case rel => exact ⟨by first | rfl | trivial, k + 1, by have := HLT.out; omega, congrArg (Value.int .i64) (by omega), 16 * x + dd, by have := HXX.out; omega, congrArg (Value.int .u64) (by first | omega | (have q := bits_step x dd HXX.out hdd; simp only [IntKind.wrap_u64] at q ⊢; omega)), HNX⟩
            case measure => have := HLT.out; simp [intOf]; omega
        · have HL : Hid (bitsL l = some x) := Lib.hid (by
            rw [HE.out]
            rw [List.take_of_length_le (by omega)] at HD
            exact HD.out)
          have k18 : (18 : Int) ≤ (k : Int) + 2 := by omega
          go_wp2_with fail
          go_ret2
          exact ⟨⟨x, by rw [HL.out]; rfl, fun n hn => by rw [HL.out] at hn; injection hn with hn; rw [hn]⟩, rfl⟩
    · have HE : Hid (bitsL l = none) := Lib.hid (by unfold bitsL; rw [if_neg (fun q => h2 q.2)])
      have x2 := ext2 l
      have b2 : (l.take 2 == [48, 120]) = false := beq_false_of_ne h2
      go_enter Tryd.func86, Tryd.ntmps86
      go_wp2_with fail
      go_ret2
      exact ⟨⟨0, by rw [HE.out]; rfl, fun n hn => by rw [HE.out] at hn; cases hn⟩, rfl⟩
  · have HE : Hid (bitsL l = none) := Lib.hid (by unfold bitsL; rw [if_neg (fun q => h18 q.1)])
    have i18 : ((l.length : Int) != 18) = true := by simp; omega
    go_enter Tryd.func86, Tryd.ntmps86
    go_wp2_with fail
    go_ret2
    exact ⟨⟨0, by rw [HE.out]; rfl, fun n hn => by rw [HE.out] at hn; cases hn⟩, rfl⟩
set_option maxRecDepth 100000 in
set_option maxHeartbeats 2000000 in
/-- The document's list. -/
theorem rlist34_any (l : List UInt8) (w : World) (hl : l.length ≤ 1000000) : Calls Tryd.prog 67 #[strV l] w fun e w' => (∃ (a : Option Addr) (n c : Nat), e = .returned (.tuple #[.slice a n c, .bool (listL l).isSome]) ∧ ∀ ks, listL l = some ks → OwnI w' w.heap.size (.slice a n c) ks) ∧ Below w.heap.size w w' := by
  unfold strV
  cases hd : (l == [45]) with
  | true =>
    have HE : Hid (listL l = some []) := Lib.hid (by unfold listL; rw [if_pos (by simpa using hd)])
    go_enter Tryd.func67, Tryd.ntmps67
    go_wp2_with fail
    go_ret2
    exact ⟨⟨_, _, _, by rw [HE.out]; rfl, fun ks hk => by rw [HE.out] at hk; injection hk with hk; rw [← hk]; exact ownI_nil _ _⟩, Below.refl _ _⟩
  | false =>
    have HK : Hid (listL l = kindP l) := Lib.hid (by unfold listL; rw [if_neg (by simpa using hd)])
    go_enter Tryd.func67, Tryd.ntmps67
    go_wp2_with fail
    go_loopw [4, 5] (fun a i wr => ∃ k : Nat, k ≤ l.length ∧ i = .int .i64 k ∧ ∃ ks : List Int, Hid (kindP (l.take k) = some ks) ∧ OwnI wr w.heap.size a ks ∧ Below w.heap.size w wr) (fun _ i _ => l.length - (intOf i).toNat)
    case atStart => exact ⟨0, Nat.zero_le _, rfl, [], Lib.hid (by rw [List.take_zero]; rfl), ownI_nil _ _, Below.refl _ _⟩
    case round =>
      obtain ⟨k, hk, rfl, ks, HD, hown, hb⟩ := hrel
      obtain ⟨a4, c4, e4⟩ := readI_len (ownI_read hown)
      subst e4
      have HLN : Hid (ks.length = k) := Lib.hid (by
        have q := kindP_len HD.out
        rw [List.length_take] at q
        omega)
      have hk0 : (0 : Int) ≤ k := by omega
      by_cases hlt : k < l.length
      · obtain ⟨c, hc⟩ : ∃ c, (⟨l.toArray⟩ : ByteArray)[k]'(by show k < l.toArray.size; simpa using hlt) = c := ⟨_, rfl⟩
        have HC : Hid (l[k] = c) := Lib.hid hc
        have HLT := Lib.hid hlt
        have k1 : (k : Int) < l.length := by omega
        have HNX : Hid (∀ dd, kindC c = some dd → kindP (l.take (k + 1)) = some (ks ++ [dd])) := Lib.hid (fun dd hv => by
          rw [take_snoc hlt, kindP_snoc, HD.out]
          show (kindC l[k]).bind _ = _
          have z : kindC l[k] = some dd := (congrArg kindC HC.out).trans hv
          rw [z]; rfl)
        have HBAD : Hid (kindC c = none → listL l = none) := Lib.hid (fun hv => by
          rw [HK.out, split_at hlt, kindP_append, HD.out]
          show ((kindC l[k]).bind _).bind _ = none
          have z : kindC l[k] = none := (congrArg kindC HC.out).trans hv
          rw [z]; rfl)
        have hs := hb.size
        have HOWN := Lib.hid hown
        have HB := Lib.hid hb
        have HCB : Hid ((c.toNat : Int) = 105 ∨ (c.toNat : Int) = 102 ∨ (c.toNat : Int) = 114 ∨ (c.toNat : Int) = 112 ∨ ((((c.toNat : Int) == 105) = false ∧ ((c.toNat : Int) == 102) = false ∧ ((c.toNat : Int) == 114) = false ∧ ((c.toNat : Int) == 112) = false) ∧ kindC c = none)) := Lib.hid (by
          by_cases q1 : c.toNat = 105
          · exact Or.inl (by omega)
          · by_cases q2 : c.toNat = 102
            · exact Or.inr (Or.inl (by omega))
            · by_cases q3 : c.toNat = 114
              · exact Or.inr (Or.inr (Or.inl (by omega)))
              · by_cases q4 : c.toNat = 112
                · exact Or.inr (Or.inr (Or.inr (Or.inl (by omega))))
                · refine Or.inr (Or.inr (Or.inr (Or.inr ⟨⟨beq_false_of_ne (by omega), beq_false_of_ne (by omega), beq_false_of_ne (by omega), beq_false_of_ne (by omega)⟩, ?_⟩)))
                  unfold kindC
                  rw [if_neg (fun e => q1 (by rw [e]; rfl)), if_neg (fun e => q2 (by rw [e]; rfl)), if_neg (fun e => q3 (by rw [e]; rfl)), if_neg (fun e => q4 (by rw [e]; rfl))])
        rcases HCB.out with h | h | h | h | ⟨⟨b1, b2, b3, b4⟩, hn⟩
        · have hc2 : c = 105 := UInt8.toNat_inj.1 (by show c.toNat = 105; omega)
          have HN := Lib.hid (HNX.out 0 (by rw [hc2]; rfl))
          have b0 : c.toNat = 105 := by omega
          clear hc2 HNX HBAD HCB hb
          rw [b0] at *
          go_wp2_with (at_builtin; refine appendI rfl _ _ rfl w.heap.size _ ks rfl (ownI_alloc HOWN.out _) _ [0] rfl (read_one wr 0) ?c1 ?c2 ?_; (case c1 => (have := HLN.out; simp only [List.length_cons, List.length_nil]; omega)); (case c2 => (simp only [World.size_alloc]; omega)); intro v3 w3 hown3 hg3)
          have hb3 : Below w.heap.size w w3 := b_own (b_alloc HB.out _) (ownI_alloc HOWN.out _) hg3
          clear hg3
          have HO3 := Lib.hid hown3
          have HB3 := Lib.hid hb3
          clear hown3 hb3
          go_wp2_with fail
          go_roundw
          case rel => exact ⟨k + 1, by have := HLT.out; omega, by first | rfl | go_num, ks ++ [0], HN, HO3.out, HB3.out⟩
          case measure => have := HLT.out; simp [intOf]; omega
        · have hc2 : c = 102 := UInt8.toNat_inj.1 (by show c.toNat = 102; omega)
          have HN := Lib.hid (HNX.out 1 (by rw [hc2]; rfl))
          have b0 : c.toNat = 102 := by omega
          clear hc2 HNX HBAD HCB hb
          rw [b0] at *
          go_wp2_with (at_builtin; refine appendI rfl _ _ rfl w.heap.size _ ks rfl (ownI_alloc HOWN.out _) _ [1] rfl (read_one wr 1) ?c1 ?c2 ?_; (case c1 => (have := HLN.out; simp only [List.length_cons, List.length_nil]; omega)); (case c2 => (simp only [World.size_alloc]; omega)); intro v3 w3 hown3 hg3)
          have hb3 : Below w.heap.size w w3 := b_own (b_alloc HB.out _) (ownI_alloc HOWN.out _) hg3
          clear hg3
          have HO3 := Lib.hid hown3
          have HB3 := Lib.hid hb3
          clear hown3 hb3
          go_wp2_with fail
          go_roundw
          case rel => exact ⟨k + 1, by have := HLT.out; omega, by first | rfl | go_num, ks ++ [1], HN, HO3.out, HB3.out⟩
          case measure => have := HLT.out; simp [intOf]; omega
        · have hc2 : c = 114 := UInt8.toNat_inj.1 (by show c.toNat = 114; omega)
          have HN := Lib.hid (HNX.out 2 (by rw [hc2]; rfl))
          have b0 : c.toNat = 114 := by omega
          clear hc2 HNX HBAD HCB hb
          rw [b0] at *
          go_wp2_with (at_builtin; refine appendI rfl _ _ rfl w.heap.size _ ks rfl (ownI_alloc HOWN.out _) _ [2] rfl (read_one wr 2) ?c1 ?c2 ?_; (case c1 => (have := HLN.out; simp only [List.length_cons, List.length_nil]; omega)); (case c2 => (simp only [World.size_alloc]; omega)); intro v3 w3 hown3 hg3)
          have hb3 : Below w.heap.size w w3 := b_own (b_alloc HB.out _) (ownI_alloc HOWN.out _) hg3
          clear hg3
          have HO3 := Lib.hid hown3
          have HB3 := Lib.hid hb3
          clear hown3 hb3
          go_wp2_with fail
          go_roundw
          case rel => exact ⟨k + 1, by have := HLT.out; omega, by first | rfl | go_num, ks ++ [2], HN, HO3.out, HB3.out⟩
          case measure => have := HLT.out; simp [intOf]; omega
        · have hc2 : c = 112 := UInt8.toNat_inj.1 (by show c.toNat = 112; omega)
          have HN := Lib.hid (HNX.out 3 (by rw [hc2]; rfl))
          have b0 : c.toNat = 112 := by omega
          clear hc2 HNX HBAD HCB hb
          rw [b0] at *
          go_wp2_with (at_builtin; refine appendI rfl _ _ rfl w.heap.size _ ks rfl (ownI_alloc HOWN.out _) _ [3] rfl (read_one wr 3) ?c1 ?c2 ?_; (case c1 => (have := HLN.out; simp only [List.length_cons, List.length_nil]; omega)); (case c2 => (simp only [World.size_alloc]; omega)); intro v3 w3 hown3 hg3)
          have hb3 : Below w.heap.size w w3 := b_own (b_alloc HB.out _) (ownI_alloc HOWN.out _) hg3
          clear hg3
          have HO3 := Lib.hid hown3
          have HB3 := Lib.hid hb3
          clear hown3 hb3
          go_wp2_with fail
          go_roundw
          case rel => exact ⟨k + 1, by have := HLT.out; omega, by first | rfl | go_num, ks ++ [3], HN, HO3.out, HB3.out⟩
          case measure => have := HLT.out; simp [intOf]; omega
        · have HZ := Lib.hid (HBAD.out hn)
          clear hn hown hb HNX HBAD HCB
          go_wp2_with fail
          go_ret2
          exact ⟨⟨_, _, _, by rw [HZ.out]; rfl, fun ks hk => by rw [HZ.out] at hk; cases hk⟩, HB.out⟩
      · have HE : Hid (listL l = some ks) := Lib.hid (by
          rw [HK.out]
          have : k = l.length := by omega
          rw [this, List.take_length] at HD
          exact HD.out)
        have k1 : (l.length : Int) ≤ k := by omega
        have HO := Lib.hid hown
        have HB := Lib.hid hb
        clear hown hb
        go_wp2_with fail
        go_ret2
        exact ⟨⟨_, _, _, by rw [HE.out]; rfl, fun ks' hk' => by rw [HE.out] at hk'; injection hk' with hk'; rw [← hk']; exact HO.out⟩, HB.out⟩
theorem rowStr : IsRow Tryd.prog 30 STRT 1 16 (.string ⟨#[]⟩) := ⟨Tryd.underlying30, by kernel_rfl, by rfl⟩
theorem words_end {l cur : List UInt8} {k : Nat} (h : l.length ≤ k ∨ ∃ h : k < l.length, l[k] = 59) : wordsGo cur (l.drop k) = if cur = [] then [] else [cur] := by
  rcases h with h | ⟨h, e⟩
  · rw [List.drop_of_length_le h]; rfl
  · rw [List.drop_eq_getElem_cons h, e]
    show (if (59 : UInt8) = 59 then (if cur = [] then [] else [cur]) else _) = _
    rw [if_pos rfl]
theorem words_let {l cur : List UInt8} {k : Nat} {c : UInt8} (h : k < l.length) (e : l[k] = c) (h59 : c ≠ 59) (hb : isB c = false) : wordsGo cur (l.drop k) = wordsGo (cur ++ [c]) (l.drop (k + 1)) := by
  rw [List.drop_eq_getElem_cons h, e, wordsGo, if_neg h59, hb, if_neg (by decide)]
theorem words_gap {l cur : List UInt8} {k : Nat} {c : UInt8} (h : k < l.length) (e : l[k] = c) (h59 : c ≠ 59) (hb : isB c = true) : wordsGo cur (l.drop k) = (if cur = [] then [] else [cur]) ++ wordsGo [] (l.drop (k + 1)) := by
  rw [List.drop_eq_getElem_cons h, e, wordsGo, if_neg h59, hb, if_pos rfl]
  by_cases q : cur = []
  · rw [if_pos q, if_pos q]; rfl
  · rw [if_neg q, if_neg q]; rfl
theorem bext2 (T : List UInt8) (k : Nat) (h : k < T.length) : (⟨T.toArray⟩ : ByteArray).extract k (k + 1) = ⟨[T[k]].toArray⟩ := by
  apply ByteArray.ext
  rw [ByteArray.data_extract]
  show T.toArray.extract k (k + 1) = _
  rw [List.extract_toArray]
  congr 1
  rw [List.extract_eq_take_drop, Nat.add_sub_cancel_left, List.drop_eq_getElem_cons h]
  rfl
set_option maxRecDepth 100000 in
set_option maxHeartbeats 2000000 in
/-- The document's Words. -/
theorem rwords_any (l : List UInt8) (w : World) (hl : l.length ≤ 1000000) : Calls Tryd.prog 48 #[strV l] w fun e w' => ∃ v, e = .returned v ∧ ReadR strE w' v (wordsL l) ∧ Below w.heap.size w w' := by
  unfold strV
  go_enter Tryd.func48, Tryd.ntmps48
  go_wp2_with fail
  go_loopw [3, 4, 5] (fun v a i wr => ∃ k : Nat, k ≤ l.length ∧ i = .int .i64 k ∧ ∃ cur : List UInt8, a = strV cur ∧ cur.length ≤ k ∧ ∃ acc : List (List UInt8), OwnR strE STRT wr w.heap.size v acc ∧ acc.length ≤ k ∧ Hid (wordsL l = acc ++ wordsGo cur (l.drop k)) ∧ Hid (Below w.heap.size w wr)) (fun _ _ i _ => l.length - (intOf i).toNat)
  case atStart => exact ⟨0, Nat.zero_le _, rfl, [], rfl, Nat.zero_le _, [], ownR_nil _ _, Nat.zero_le _, Lib.hid rfl, Lib.hid (Below.refl _ _)⟩
  case round =>
    obtain ⟨k, hk, rfl, cur, rfl, hcl, acc, hown, hal, HW, HB⟩ := hrel
    unfold strV
    have hk0 : (0 : Int) ≤ k := by omega
    obtain ⟨a4, c4, e4, hac, _⟩ := readR_len (ownR_read hown)
    subst e4
    have HO := Lib.hid hown
    clear hown
    by_cases hlt : k < l.length
    · obtain ⟨c, hc⟩ : ∃ c, (⟨l.toArray⟩ : ByteArray)[k]'(by show k < l.toArray.size; simpa using hlt) = c := ⟨_, rfl⟩
      have HC : Hid (l[k] = c) := Lib.hid hc
      have HLT := Lib.hid hlt
      have k1 : (k : Int) < l.length := by omega
      rcases (show (c.toNat : Int) = 59 ∨ (c.toNat : Int) = 32 ∨ (c.toNat : Int) = 9 ∨ ((c.toNat : Int) ≠ 59 ∧ (c.toNat : Int) ≠ 32 ∧ (c.toNat : Int) ≠ 9) by omega) with hcv | hcv | hcv | ⟨n1, n2, n3⟩
      · have b59 : ((c.toNat : Int) != 59) = false := by rw [hcv]; rfl
        have hc59 : l[k] = 59 := HC.out.trans (UInt8.toNat_inj.1 (by show c.toNat = 59; omega))
        have HEND := Lib.hid (words_end (cur := cur) (l := l) (k := k) (Or.inr ⟨hlt, hc59⟩))
        by_cases hcur : cur = []
        · have HWN : Hid (wordsL l = acc) := Lib.hid (by rw [HW.out, HEND.out, if_pos hcur, List.append_nil])
          subst hcur
          clear HW HEND hc59 hcv
          go_wp2_with fail
          go_ret
          exact ⟨_, rfl, by rw [HWN.out]; exact ownR_read HO.out, HB.out⟩
        · have HWN : Hid (wordsL l = acc ++ [cur]) := Lib.hid (by rw [HW.out, HEND.out, if_neg hcur])
          have he : cur.isEmpty = false := by cases cur; exact absurd rfl hcur; rfl
          have he2 : (cur == []) = false := by cases cur; exact absurd rfl hcur; rfl
          clear HW HEND hc59 hcv hcur
          go_wp2_with (at_builtin; refine appendR (c := strE) rowStr rfl _ _ rfl w.heap.size _ acc rfl (ownR_alloc HO.out _) _ [cur] rfl (readR_new (c := strE) wr STRT cur) ?c1 ?c2 ?c3 ?_; (case c1 => (simp only [List.length_cons, List.length_nil]; omega)); (case c2 => (unfold maxLen; simp only [List.length_cons, List.length_nil]; omega)); (case c3 => (have := HB.out.size; simp only [World.size_alloc]; omega)); intro v3 w3 hown3 hg3)
          have hb3 : Below w.heap.size w w3 := b_ownR (b_alloc HB.out _) (ownR_alloc HO.out _) hg3
          clear hg3
          have HO3 := Lib.hid hown3
          have HB3 := Lib.hid hb3
          clear hown3 hb3
          go_wp2_with fail
          go_ret
          exact ⟨_, rfl, by rw [HWN.out]; exact ownR_read HO3.out, HB3.out⟩
      · have b59 : ((c.toNat : Int) != 59) = true := by rw [hcv]; rfl
        have b32 : ((c.toNat : Int) != 32) = false := by rw [hcv]; rfl
        have b9 : ((c.toNat : Int) != 9) = true := by rw [hcv]; rfl
        have HG := Lib.hid (words_gap (cur := cur) hlt HC.out (fun q => by rw [q] at hcv; exact absurd hcv (by decide)) (by unfold isB; rw [show c = 32 from UInt8.toNat_inj.1 (by show c.toNat = 32; omega)]; rfl))
        by_cases hcur : cur = []
        · have HWN : Hid (wordsL l = acc ++ wordsGo [] (l.drop (k + 1))) := Lib.hid (by rw [HW.out, HG.out, if_pos hcur, List.nil_append])
          subst hcur
          clear HW HG hcv
          go_wp2_with fail
          go_roundw
          case rel => exact ⟨k + 1, by have := HLT.out; omega, by first | rfl | go_num, [], rfl, by simp, acc, HO.out, by omega, HWN, HB⟩
          case measure => have := HLT.out; simp [intOf]; omega
        · have HWN : Hid (wordsL l = (acc ++ [cur]) ++ wordsGo [] (l.drop (k + 1))) := Lib.hid (by rw [HW.out, HG.out, if_neg hcur, List.append_assoc])
          have he : cur.isEmpty = false := by cases cur; exact absurd rfl hcur; rfl
          have he2 : (cur == []) = false := by cases cur; exact absurd rfl hcur; rfl
          clear HW HG hcv hcur
          go_wp2_with (at_builtin; refine appendR (c := strE) rowStr rfl _ _ rfl w.heap.size _ acc rfl (ownR_alloc HO.out _) _ [cur] rfl (readR_new (c := strE) wr STRT cur) ?c1 ?c2 ?c3 ?_; (case c1 => (simp only [List.length_cons, List.length_nil]; omega)); (case c2 => (unfold maxLen; simp only [List.length_cons, List.length_nil]; omega)); (case c3 => (have := HB.out.size; simp only [World.size_alloc]; omega)); intro v3 w3 hown3 hg3)
          have hb3 : Below w.heap.size w w3 := b_ownR (b_alloc HB.out _) (ownR_alloc HO.out _) hg3
          clear hg3
          have HO3 := Lib.hid hown3
          have HB3 := Lib.hid hb3
          clear hown3 hb3
          go_wp2_with fail
          go_roundw
          case rel => exact ⟨k + 1, by have := HLT.out; omega, by first | rfl | go_num, [], rfl, by simp, acc ++ [cur], HO3.out, by simp only [List.length_append, List.length_cons, List.length_nil]; omega, HWN, HB3⟩
          case measure => have := HLT.out; simp [intOf]; omega
      · have b59 : ((c.toNat : Int) != 59) = true := by rw [hcv]; rfl
        have b32 : ((c.toNat : Int) != 32) = true := by rw [hcv]; rfl
        have b9 : ((c.toNat : Int) != 9) = false := by rw [hcv]; rfl
        have HG := Lib.hid (words_gap (cur := cur) hlt HC.out (fun q => by rw [q] at hcv; exact absurd hcv (by decide)) (by unfold isB; rw [show c = 9 from UInt8.toNat_inj.1 (by show c.toNat = 9; omega)]; rfl))
        by_cases hcur : cur = []
        · have HWN : Hid (wordsL l = acc ++ wordsGo [] (l.drop (k + 1))) := Lib.hid (by rw [HW.out, HG.out, if_pos hcur, List.nil_append])
          subst hcur
          clear HW HG hcv
          go_wp2_with fail
          go_roundw
          case rel => exact ⟨k + 1, by have := HLT.out; omega, by first | rfl | go_num, [], rfl, by simp, acc, HO.out, by omega, HWN, HB⟩
          case measure => have := HLT.out; simp [intOf]; omega
        · have HWN : Hid (wordsL l = (acc ++ [cur]) ++ wordsGo [] (l.drop (k + 1))) := Lib.hid (by rw [HW.out, HG.out, if_neg hcur, List.append_assoc])
          have he : cur.isEmpty = false := by cases cur; exact absurd rfl hcur; rfl
          have he2 : (cur == []) = false := by cases cur; exact absurd rfl hcur; rfl
          clear HW HG hcv hcur
          go_wp2_with (at_builtin; refine appendR (c := strE) rowStr rfl _ _ rfl w.heap.size _ acc rfl (ownR_alloc HO.out _) _ [cur] rfl (readR_new (c := strE) wr STRT cur) ?c1 ?c2 ?c3 ?_; (case c1 => (simp only [List.length_cons, List.length_nil]; omega)); (case c2 => (unfold maxLen; simp only [List.length_cons, List.length_nil]; omega)); (case c3 => (have := HB.out.size; simp only [World.size_alloc]; omega)); intro v3 w3 hown3 hg3)
          have hb3 : Below w.heap.size w w3 := b_ownR (b_alloc HB.out _) (ownR_alloc HO.out _) hg3
          clear hg3
          have HO3 := Lib.hid hown3
          have HB3 := Lib.hid hb3
          clear hown3 hb3
          go_wp2_with fail
          go_roundw
          case rel => exact ⟨k + 1, by have := HLT.out; omega, by first | rfl | go_num, [], rfl, by simp, acc ++ [cur], HO3.out, by simp only [List.length_append, List.length_cons, List.length_nil]; omega, HWN, HB3⟩
          case measure => have := HLT.out; simp [intOf]; omega
      · have b59 : ((c.toNat : Int) != 59) = true := by simpa using n1
        have b32 : ((c.toNat : Int) != 32) = true := by simpa using n2
        have b9 : ((c.toNat : Int) != 9) = true := by simpa using n3
        have HG := Lib.hid (words_let (cur := cur) hlt HC.out (fun q => n1 (by rw [q]; rfl)) (by
          unfold isB
          rw [beq_false_of_ne (fun q => n2 (by rw [q]; rfl)), beq_false_of_ne (fun q => n3 (by rw [q]; rfl))]; rfl))
        have HWN : Hid (wordsL l = acc ++ wordsGo (cur ++ [c]) (l.drop (k + 1))) := Lib.hid (by rw [HW.out, HG.out])
        clear n1 n2 n3 HW HG
        go_wp2_with fail
        go_roundw
        case rel => exact ⟨k + 1, by have := HLT.out; omega, by first | rfl | go_num, cur ++ [c], congrArg Value.string (by rw [bext2 l k HLT.out]; exact (congrArg (fun z => (⟨cur.toArray⟩ : ByteArray) ++ ⟨[z].toArray⟩) HC.out).trans (ba_append cur [c])), by simp; omega, acc, HO.out, by omega, HWN, HB⟩
        case measure => have := HLT.out; simp [intOf]; omega
    · have k1 : (l.length : Int) ≤ k := by omega
      have HEND := Lib.hid (words_end (cur := cur) (l := l) (k := k) (Or.inl (by omega)))
      by_cases hcur : cur = []
      · have HWN : Hid (wordsL l = acc) := Lib.hid (by rw [HW.out, HEND.out, if_pos hcur, List.append_nil])
        subst hcur
        clear HW HEND
        go_wp2_with fail
        go_ret
        exact ⟨_, rfl, by rw [HWN.out]; exact ownR_read HO.out, HB.out⟩
      · have HWN : Hid (wordsL l = acc ++ [cur]) := Lib.hid (by rw [HW.out, HEND.out, if_neg hcur])
        have he : cur.isEmpty = false := by cases cur; exact absurd rfl hcur; rfl
        have he2 : (cur == []) = false := by cases cur; exact absurd rfl hcur; rfl
        clear HW HEND hcur
        go_wp2_with (at_builtin; refine appendR (c := strE) rowStr rfl _ _ rfl w.heap.size _ acc rfl (ownR_alloc HO.out _) _ [cur] rfl (readR_new (c := strE) wr STRT cur) ?c1 ?c2 ?c3 ?_; (case c1 => (simp only [List.length_cons, List.length_nil]; omega)); (case c2 => (unfold maxLen; simp only [List.length_cons, List.length_nil]; omega)); (case c3 => (have := HB.out.size; simp only [World.size_alloc]; omega)); intro v3 w3 hown3 hg3)
        have hb3 : Below w.heap.size w w3 := b_ownR (b_alloc HB.out _) (ownR_alloc HO.out _) hg3
        clear hg3
        have HO3 := Lib.hid hown3
        have HB3 := Lib.hid hb3
        clear hown3 hb3
        go_wp2_with fail
        go_ret
        exact ⟨_, rfl, by rw [HWN.out]; exact ownR_read HO3.out, HB3.out⟩
end Go.Proofs.YtedmjlhgpdeafaaDoor
