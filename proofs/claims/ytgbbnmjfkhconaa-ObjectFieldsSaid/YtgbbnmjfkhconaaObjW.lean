/- Layer 17's fields, the plain law: what was set is read, and no other word is another one. No program in sight beside the shapes' own words. -/
import Derived.Test.YtgbbnmjfkhconaaObj6
import Derived.Test.YtgbbnmjfkhconaaAreZ
import Derived.Laws.Bits128
namespace Go.Proofs.Ytgbbnmjfkhconaa
open Go.RowKit
set_option linter.unusedVariables false
set_option linter.unusedSimpArgs false
theorem o_getL_putL : ∀ (n : Nat) (v : Int), 0 ≤ v → getL (putL n v) = v % 256 ^ n
  | 0, v, _ => by
    show (0 : Int) = v % 256 ^ 0
    rw [Int.pow_zero, Int.emod_one]
  | n + 1, v, hv => by
    rw [putL_snoc, getL_snoc, o_getL_putL n v hv, putL_length]
    unfold byteAt
    obtain ⟨V, rfl⟩ := Int.eq_ofNat_of_zero_le hv
    have p : (256 : Int) ^ n = ((256 ^ n : Nat) : Int) := by rw [Int.natCast_pow]; rfl
    have p2 : (256 : Int) ^ (n + 1) = ((256 ^ (n + 1) : Nat) : Int) := by rw [Int.natCast_pow]; rfl
    rw [p, p2, ← Int.natCast_ediv, ← Int.natCast_emod]
    rw [show (256 : Int) = ((256 : Nat) : Int) from rfl, ← Int.natCast_emod, ← Int.natCast_mul, ← Int.natCast_add, ← Int.natCast_emod]
    rw [Nat.pow_succ, Nat.mod_mul, Nat.mul_comm (256 ^ n)]
theorem o_word {v : Int} (h : 0 ≤ v) (h2 : v < 18446744073709551616) : getL (putL 8 v) = v := by
  rw [o_getL_putL 8 v h, show (256 : Int) ^ 8 = 18446744073709551616 from rfl]; exact Int.emod_eq_of_lt h h2
theorem lay_out {L M : List Int} {k : Nat} (h : k + M.length ≤ L.length) (i : Nat) (ho : i < k ∨ k + M.length ≤ i) : (lay L k M)[i]? = L[i]? := by
  unfold lay
  rcases ho with q | q
  · rw [List.append_assoc, List.getElem?_append_left (by rw [List.length_take]; omega), List.getElem?_take_of_lt q]
  · have e : (L.take k ++ M).length = k + M.length := by rw [List.length_append, List.length_take]; omega
    rw [List.getElem?_append_right (by rw [e]; exact q), e, List.getElem?_drop]
    congr 1; omega
theorem getW_same {L : List Int} {k : Nat} {v : Int} (h : k + 8 ≤ L.length) (hv : 0 ≤ v) (hv2 : v < 18446744073709551616) : getW (lay L k (putL 8 v)) k = v := by
  have e : ((lay L k (putL 8 v)).drop k).take 8 = putL 8 v := by
    unfold lay
    rw [List.append_assoc, List.drop_append_of_le_length (by rw [List.length_take]; omega), List.drop_eq_nil_of_le (by rw [List.length_take]; omega), List.nil_append, List.take_append_of_le_length (by rw [putL_length]; exact Nat.le_refl _), List.take_of_length_le (by rw [putL_length]; exact Nat.le_refl _)]
  unfold getW
  rw [e, o_word hv hv2]
theorem getW_other {L : List Int} {k q : Nat} {v : Int} (h : k + 8 ≤ L.length) (ho : q + 8 ≤ k ∨ k + 8 ≤ q) : getW (lay L k (putL 8 v)) q = getW L q := by
  unfold getW
  congr 1
  apply List.ext_getElem?
  intro i
  by_cases hi : i < 8
  · rw [List.getElem?_take_of_lt hi, List.getElem?_take_of_lt hi, List.getElem?_drop, List.getElem?_drop]
    exact lay_out (by rw [putL_length]; exact h) _ (by rw [putL_length]; omega)
  · rw [List.getElem?_eq_none (by rw [List.length_take]; omega), List.getElem?_eq_none (by rw [List.length_take]; omega)]
theorem head_same {L M : List Int} {a : Int} (hl : M.length = L.length) (hw : getW M a.toNat = getW L a.toNat) : headR M a = headR L a ∧ headN M a = headN L a ∧ headE M a = headE L a := by
  have e1 : hdR M a = hdR L a := by unfold hdR; rw [hw]
  have e2 : hdN M a = hdN L a := by unfold hdN; rw [hw]
  have e3 : hdOk M a = hdOk L a := by unfold hdOk; rw [e1, e2, hl, hw]
  unfold headR headN headE
  rw [e1, e2, e3, hl]
  exact ⟨rfl, rfl, rfl⟩
/-- An object of r references and n numbers at 8, and what stands in its fields. -/
structure FdS (L : List Int) (r n : Nat) (R U : List Int) : Prop where
  len : L.length = 256
  by_ : IsBytes L
  rn : r + n ≤ 15
  hE : headE L 8 = 0
  hR : headR L 8 = r
  hN : headN L 8 = n
  rl : R.length = 16
  ul : U.length = 16
  rb : ∀ k, k < 16 → -1 ≤ R.getD k 0 ∧ R.getD k 0 ≤ 1023
  rv : ∀ k, k < r → getW L (16 + 8 * k) = R.getD k 0 + 1
  uv : ∀ k, k < n → getW L (16 + 8 * r + 8 * k) = U.getD k 0
theorem zeros_lay (k m : Nat) (h : k + m ≤ 256) : lay (List.replicate 256 (0 : Int)) k (List.replicate m 0) = List.replicate 256 0 := by
  unfold lay
  rw [List.take_replicate, List.drop_replicate, List.length_replicate, List.replicate_append_replicate, List.replicate_append_replicate]
  congr 1; omega
theorem fds_new {r n : Nat} (h : r + n ≤ 15) : mkE (List.replicate 256 0) 8 r n = 0 ∧ FdS (mkL (List.replicate 256 0) 8 r n) r n (List.replicate 16 (-1)) (List.replicate 16 0) := by
  have ho := okS_yes (r := r) (n := n) ⟨by omega, by omega, by omega⟩
  have hl : (List.replicate 256 (0 : Int)).length = 256 := List.length_replicate ..
  have hw : wordE (List.replicate 256 (0 : Int)).length 8 = 0 := by rw [hl]; decide
  have e1 : inE (List.replicate 256 (0 : Int)).length 8 (bytS r n) = 0 := by rw [hl, ho.2]; exact if_pos (by omega)
  have e2 : mkE (List.replicate 256 0) 8 r n = 0 := by unfold mkE; rw [if_pos ho.1, if_pos hw]; exact e1
  have e3 : fillL (List.replicate 256 0) 8 (bytS r n) 0 = List.replicate 256 0 := by
    unfold fillL; rw [if_pos e1]; exact zeros_lay _ _ (by rw [ho.2]; omega)
  have hV : 0 ≤ wordS r n ∧ wordS r n < 18446744073709551616 := by unfold wordS; omega
  have e4 : mkL (List.replicate 256 0) 8 r n = lay (List.replicate 256 0) 8 (putL 8 (wordS r n)) := by
    unfold mkL; rw [if_pos e2, e3, setW_ok hw]; rfl
  have hlen : (lay (List.replicate 256 (0 : Int)) 8 (putL 8 (wordS r n))).length = 256 := by rw [lay_length (by rw [putL_length, hl]; decide), hl]
  have hg : getW (lay (List.replicate 256 (0 : Int)) 8 (putL 8 (wordS r n))) 8 = wordS r n := getW_same (by rw [hl]; decide) hV.1 hV.2
  have hm := mt_yes (L := lay (List.replicate 256 (0 : Int)) 8 (putL 8 (wordS r n))) (k := 8) (by rw [hlen]; decide) (by rw [hlen]; decide) (r := r) (n := n) ⟨by omega, by omega, by omega⟩ ⟨hg.symm, by rw [hlen]; exact decide_eq_true (by rw [ho.2]; exact if_pos (by omega))⟩
  refine ⟨e2, ?_⟩
  rw [e4]
  refine ⟨hlen, isBytes_lay (isBytes_rep _ (by decide)) (isBytes_putL _ _) _, h, hm.2.2, hm.1, hm.2.1, List.length_replicate .., List.length_replicate .., fun k hk => ?_, fun k hk => ?_, fun k hk => ?_⟩
  · rw [List.getD_eq_getElem?_getD, List.getElem?_replicate, if_pos hk]; decide
  · rw [getW_other (by rw [hl]; decide) (by omega), getW_zero, List.getD_eq_getElem?_getD, List.getElem?_replicate, if_pos (by omega)]; rfl
  · rw [getW_other (by rw [hl]; decide) (by omega), getW_zero, List.getD_eq_getElem?_getD, List.getElem?_replicate, if_pos (by omega)]; rfl
theorem fds_fldE {L : List Int} {r n : Nat} {R U : List Int} (h : FdS L r n R U) (k : Int) (nu : Bool) : fldE L 8 k nu = if 0 ≤ k ∧ k < (if nu = true then (n : Int) else r) then 0 else 3 := by
  unfold fldE manyF
  rw [if_pos h.hE, h.hR, h.hN]
theorem fds_fldP {L : List Int} {r n : Nat} {R U : List Int} (h : FdS L r n R U) {k : Nat} {nu : Bool} (hk : k < (if nu = true then n else r)) : fldE L 8 k nu = 0 ∧ fldP L 8 k nu = ((16 + (if nu = true then 8 * r else 0) + 8 * k : Nat) : Int) := by
  have e : fldE L 8 k nu = 0 := by
    rw [fds_fldE h]
    exact if_pos (by cases nu <;> simp at hk ⊢ <;> omega)
  refine ⟨e, ?_⟩
  unfold fldP behF
  rw [if_pos e, h.hR]
  cases nu <;> simp <;> omega
theorem fds_ref {L : List Int} {r n : Nat} {R U : List Int} (h : FdS L r n R U) {k : Nat} (hk : k < r) : fldE L 8 k false = 0 ∧ refV L 8 k = R.getD k 0 := by
  obtain ⟨e1, e2⟩ := fds_fldP h (nu := false) hk
  refine ⟨e1, ?_⟩
  have hrn := h.rn
  have hb := h.rb k (by omega)
  unfold refV
  rw [if_pos e1, e2, Int.toNat_natCast]
  show refI (getW L (16 + 0 + 8 * k)) = _
  rw [show 16 + 0 + 8 * k = 16 + 8 * k by omega, h.rv k hk]
  unfold refI
  generalize R.getD k 0 = y at *
  rw [show wrap64 (y + 1) = y + 1 by unfold wrap64; omega]
  unfold wrap64; omega
theorem fds_num {L : List Int} {r n : Nat} {R U : List Int} (h : FdS L r n R U) {k : Nat} (hk : k < n) : fldE L 8 k true = 0 ∧ numV L 8 k = U.getD k 0 := by
  obtain ⟨e1, e2⟩ := fds_fldP h (nu := true) hk
  refine ⟨e1, ?_⟩
  unfold numV
  rw [if_pos e1, e2, Int.toNat_natCast]
  show getW L (16 + 8 * r + 8 * k) = _
  exact h.uv k hk
theorem getD_set_same {R : List Int} {k : Nat} (h : k < R.length) (x : Int) : (R.set k x).getD k 0 = x := by
  rw [List.getD_eq_getElem?_getD, List.getElem?_set_self h]; rfl
theorem getD_set_ne {R : List Int} {k j : Nat} (h : k ≠ j) (x : Int) : (R.set k x).getD j 0 = R.getD j 0 := by
  rw [List.getD_eq_getElem?_getD, List.getElem?_set_ne h, List.getD_eq_getElem?_getD]
theorem fds_setref {L : List Int} {r n : Nat} {R U : List Int} (h : FdS L r n R U) {k : Nat} (hk : k < r) {t : Int} (ht : 0 ≤ t ∧ t ≤ 1023) : srE L 8 k t = 0 ∧ FdS (srL L 8 k t) r n (R.set k t) U := by
  obtain ⟨e1, e2⟩ := fds_fldP h (nu := false) hk
  have hrn := h.rn
  have e3 : srE L 8 k t = 0 := by unfold srE; rw [if_pos e1, if_neg (by omega)]
  obtain ⟨p, q1, q2, q3, q4⟩ := fld_word e1
  have hp : p = 16 + 8 * k := by
    have : ((16 + (if false = true then 8 * r else 0) + 8 * k : Nat) : Int) = p := by rw [← e2]; exact q1
    simp at this; omega
  subst hp
  have e4 : srL L 8 k t = lay L (16 + 8 * k) (putL 8 (t + 1)) := by unfold srL; rw [if_pos e3, setW_ok q4, q1, Int.toNat_natCast]
  have hlen : (lay L (16 + 8 * k) (putL 8 (t + 1))).length = L.length := lay_length (by rw [putL_length]; exact q3)
  have hh := head_same (a := 8) hlen (getW_other q3 (Or.inl (by show 8 + 8 ≤ 16 + 8 * k; omega)))
  refine ⟨e3, ?_⟩
  rw [e4]
  refine ⟨by rw [hlen]; exact h.len, isBytes_lay h.by_ (isBytes_putL _ _) _, h.rn, by rw [hh.2.2]; exact h.hE, by rw [hh.1]; exact h.hR, by rw [hh.2.1]; exact h.hN, by rw [List.length_set]; exact h.rl, h.ul, fun j hj => ?_, fun j hj => ?_, fun j hj => ?_⟩
  · by_cases hkj : k = j
    · subst hkj; rw [getD_set_same (by rw [h.rl]; omega)]; omega
    · rw [getD_set_ne hkj]; exact h.rb j hj
  · by_cases hkj : k = j
    · subst hkj; rw [getD_set_same (by rw [h.rl]; omega)]; exact getW_same q3 (by omega) (by omega)
    · rw [getD_set_ne hkj, getW_other q3 (by omega)]; exact h.rv j hj
  · rw [getW_other q3 (by omega)]; exact h.uv j hj
theorem fds_setnum {L : List Int} {r n : Nat} {R U : List Int} (h : FdS L r n R U) {k : Nat} (hk : k < n) {v : Int} (hv : 0 ≤ v ∧ v < 18446744073709551616) : fldE L 8 k true = 0 ∧ FdS (snL L 8 k v) r n R (U.set k v) := by
  obtain ⟨e1, e2⟩ := fds_fldP h (nu := true) hk
  have hrn := h.rn
  obtain ⟨p, q1, q2, q3, q4⟩ := fld_word e1
  have hp : p = 16 + 8 * r + 8 * k := by
    have : ((16 + (if true = true then 8 * r else 0) + 8 * k : Nat) : Int) = p := by rw [← e2]; exact q1
    simp at this; omega
  subst hp
  have e4 : snL L 8 k v = lay L (16 + 8 * r + 8 * k) (putL 8 v) := by unfold snL; rw [if_pos e1, setW_ok q4, q1, Int.toNat_natCast]
  have hlen : (lay L (16 + 8 * r + 8 * k) (putL 8 v)).length = L.length := lay_length (by rw [putL_length]; exact q3)
  have hh := head_same (a := 8) hlen (getW_other q3 (Or.inl (by show 8 + 8 ≤ 16 + 8 * r + 8 * k; omega)))
  refine ⟨e1, ?_⟩
  rw [e4]
  refine ⟨by rw [hlen]; exact h.len, isBytes_lay h.by_ (isBytes_putL _ _) _, h.rn, by rw [hh.2.2]; exact h.hE, by rw [hh.1]; exact h.hR, by rw [hh.2.1]; exact h.hN, h.rl, by rw [List.length_set]; exact h.ul, h.rb, fun j hj => ?_, fun j hj => ?_⟩
  · rw [getW_other q3 (by omega)]; exact h.rv j hj
  · by_cases hkj : k = j
    · subst hkj; rw [getD_set_same (by rw [h.ul]; omega)]; exact getW_same q3 hv.1 hv.2
    · rw [getD_set_ne hkj, getW_other q3 (by omega)]; exact h.uv j hj
theorem o_and15 (n : Int) : bits .and .i64 n 15 = n % 16 := by
  have h15 : (BitVec.ofInt 64 15).toNat = 2 ^ 4 - 1 := by decide
  have key : (BitVec.ofInt 64 n &&& BitVec.ofInt 64 15).toNat = (n % ((2 ^ 64 : Nat) : Int)).toNat % 2 ^ 4 := by
    rw [BitVec.toNat_and, BitVec.toNat_ofInt, h15, Nat.and_two_pow_sub_one_eq_mod]
  show IntKind.i64.wrap ((BitVec.ofInt 64 n &&& BitVec.ofInt 64 15).toNat : Nat) = n % 16
  rw [key, IntKind.wrap_i64]
  omega
theorem o_and1023 (n : Int) : bits .and .i64 n 1023 = n % 1024 := by
  have h15 : (BitVec.ofInt 64 1023).toNat = 2 ^ 10 - 1 := by decide
  have key : (BitVec.ofInt 64 n &&& BitVec.ofInt 64 1023).toNat = (n % ((2 ^ 64 : Nat) : Int)).toNat % 2 ^ 10 := by
    rw [BitVec.toNat_and, BitVec.toNat_ofInt, h15, Nat.and_two_pow_sub_one_eq_mod]
  show IntKind.i64.wrap ((BitVec.ofInt 64 n &&& BitVec.ofInt 64 1023).toNat : Nat) = n % 1024
  rw [key, IntKind.wrap_i64]
  omega
end Go.Proofs.Ytgbbnmjfkhconaa
