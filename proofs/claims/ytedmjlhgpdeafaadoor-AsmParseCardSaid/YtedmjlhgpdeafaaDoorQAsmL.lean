/- Layer 34, plain: digits, words and lines of texts, as lists of bytes. No program in sight. No conditions beside those stated. -/
import Derived.Lib.SplitLaws
import Derived.Lib.FieldsP
import Derived.Laws.RangeAny
namespace Go.Proofs.YtedmjlhgpdeafaaDoor
set_option linter.unusedVariables false
set_option linter.unusedSimpArgs false
/-- A string's value. -/
def strV (l : List UInt8) : Value := .string ⟨l.toArray⟩
theorem strV_of (s : ByteArray) : Value.string s = strV s.data.toList := by
  obtain ⟨⟨l⟩⟩ := s; rfl
theorem barr (s : ByteArray) : (⟨s.data.toList.toArray⟩ : ByteArray) = s := by
  obtain ⟨⟨l⟩⟩ := s; rfl
/-! ### Numbers' digits -/
def dig (k : Nat) : UInt8 := UInt8.ofNat (48 + k)
def numL (n : Nat) : List UInt8 := if h : n < 10 then [dig n] else numL (n / 10) ++ [dig (n % 10)]
termination_by n
decreasing_by omega
theorem numL_lt {n : Nat} (h : n < 10) : numL n = [dig n] := by rw [numL, dif_pos h]
theorem numL_ge {n : Nat} (h : ¬ n < 10) : numL n = numL (n / 10) ++ [dig (n % 10)] := by rw [numL, dif_neg h]
theorem numL_ne (n : Nat) : numL n ≠ [] := by
  by_cases h : n < 10
  · rw [numL_lt h]; simp
  · rw [numL_ge h]; simp
theorem dig_nat {k : Nat} (h : k < 10) : (dig k).toNat = 48 + k := by
  unfold dig
  rw [UInt8.toNat_ofNat']
  omega
def digV (c : UInt8) : Option Nat := if 48 ≤ c.toNat ∧ c.toNat ≤ 57 then some (c.toNat - 48) else none
theorem digV_dig {k : Nat} (h : k < 10) : digV (dig k) = some k := by
  unfold digV
  rw [dig_nat h, if_pos (by omega), Nat.add_sub_cancel_left]
theorem digV_inv {c : UInt8} {d : Nat} (h : digV c = some d) : d < 10 ∧ dig d = c ∧ c.toNat = 48 + d := by
  unfold digV at h
  split at h
  · injection h with h
    subst h
    refine ⟨by omega, ?_, by omega⟩
    unfold dig
    rw [show 48 + (c.toNat - 48) = c.toNat by omega, UInt8.ofNat_toNat]
  · cases h
def decV : List UInt8 → Nat → Option Nat
  | [], n => some n
  | c :: r, n => (digV c).bind fun d => decV r (10 * n + d)
theorem decV_append : ∀ (l r : List UInt8) (m : Nat), decV (l ++ r) m = (decV l m).bind (decV r)
  | [], r, m => rfl
  | c :: l, r, m => by
    show (digV c).bind _ = ((digV c).bind _).bind _
    cases digV c with
    | none => rfl
    | some d => exact decV_append l r _
theorem decV_snoc (l : List UInt8) (c : UInt8) (m : Nat) : decV (l ++ [c]) m = (decV l m).bind fun n => (digV c).bind fun d => some (10 * n + d) := by
  rw [decV_append]; rfl
theorem numL_step {m d : Nat} (hm : 0 < m) (hd : d < 10) : numL (10 * m + d) = numL m ++ [dig d] := by
  rw [numL_ge (by omega), show (10 * m + d) / 10 = m by omega, show (10 * m + d) % 10 = d by omega]
theorem decV_num : ∀ (w : List UInt8) (m n : Nat), 0 < m → decV w m = some n → numL n = numL m ++ w
  | [], m, n, _, h => by
    injection h with h
    rw [h, List.append_nil]
  | c :: r, m, n, hm, h => by
    unfold decV at h
    cases e : digV c with
    | none => rw [e] at h; cases h
    | some d =>
      rw [e] at h
      obtain ⟨hd, hc, _⟩ := digV_inv e
      rw [decV_num r (10 * m + d) n (by omega) h, numL_step hm hd, hc, List.append_assoc]; rfl
theorem decV_back (n : Nat) : ∀ r, decV (numL n ++ r) 0 = decV r n := by
  induction n using Nat.strongRecOn with
  | ind n ih =>
    intro r
    by_cases h : n < 10
    · rw [numL_lt h]
      show (digV (dig n)).bind _ = _
      rw [digV_dig h]
      show decV r (10 * 0 + n) = _
      rw [Nat.mul_zero, Nat.zero_add]
    · rw [numL_ge h, List.append_assoc, ih (n / 10) (by omega)]
      show (digV (dig (n % 10))).bind _ = _
      rw [digV_dig (by omega)]
      show decV r (10 * (n / 10) + n % 10) = _
      rw [show 10 * (n / 10) + n % 10 = n by omega]
theorem numL_head (n : Nat) : 0 < n → ∀ c r, numL n = c :: r → c ≠ 48 := by
  induction n using Nat.strongRecOn with
  | ind n ih =>
    intro h0 c r e
    by_cases h : n < 10
    · rw [numL_lt h] at e
      injection e with e _
      intro hc
      have := dig_nat h
      rw [e, hc] at this
      have q : (48 : UInt8).toNat = 48 := rfl
      omega
    · rw [numL_ge h] at e
      cases q : numL (n / 10) with
      | nil => exact absurd q (numL_ne _)
      | cons c' r' =>
        rw [q] at e
        injection e with e _
        rw [← e]
        exact ih (n / 10) (by omega) (by omega) c' r' q
theorem numL_len : ∀ (k n : Nat), n < 10 ^ (k + 1) → (numL n).length ≤ k + 1
  | 0, n, h => by rw [numL_lt (by omega)]; simp
  | k + 1, n, h => by
    by_cases q : n < 10
    · rw [numL_lt q]; simp
    · rw [numL_ge q, List.length_append]
      have := numL_len k (n / 10) (by rw [Nat.pow_succ] at h; omega)
      simp; omega
theorem decV_bound : ∀ (w : List UInt8) (m n : Nat), decV w m = some n → n < (m + 1) * 10 ^ w.length
  | [], m, n, h => by
    injection h with h
    simp; omega
  | c :: r, m, n, h => by
    unfold decV at h
    cases e : digV c with
    | none => rw [e] at h; cases h
    | some d =>
      rw [e] at h
      obtain ⟨hd, _⟩ := digV_inv e
      have ih := decV_bound r (10 * m + d) n h
      rw [List.length_cons, Nat.pow_succ]
      have : (10 * m + d + 1) * 10 ^ r.length ≤ (10 * (m + 1)) * 10 ^ r.length := Nat.mul_le_mul_right _ (by omega)
      have e2 : (m + 1) * (10 ^ r.length * 10) = (10 * (m + 1)) * 10 ^ r.length := by
        rw [Nat.mul_comm (10 ^ r.length) 10, ← Nat.mul_assoc, Nat.mul_comm (m + 1) 10]
      omega
/-- A number that a word spells. -/
def valL (w : List UInt8) : Option Nat := if w.length ≤ 5 then (match decV w 0 with | some n => if n ≤ 65535 ∧ numL n = w then some n else none | none => none) else none
theorem valL_long {w : List UInt8} (h : 5 < w.length) : valL w = none := by unfold valL; rw [if_neg (by omega)]
theorem valL_bad {w : List UInt8} (h : decV w 0 = none) : valL w = none := by
  unfold valL
  rw [h]
  split <;> rfl
theorem valL_nil : valL [] = none := by
  unfold valL
  rw [if_pos (by simp)]
  show (if 0 ≤ 65535 ∧ numL 0 = [] then some 0 else none) = none
  rw [if_neg (fun q => numL_ne 0 q.2)]
theorem valL_lead {w : List UInt8} (h1 : 1 < w.length) (h : w.head? = some 48) : valL w = none := by
  unfold valL
  split
  · split
    · rename_i n hn
      rw [if_neg]
      intro q
      obtain ⟨_, q⟩ := q
      by_cases h0 : n = 0
      · rw [h0, numL_lt (by omega)] at q
        rw [← q] at h1
        simp at h1
      · cases w with
        | nil => simp at h1
        | cons c r =>
          injection h with h
          exact numL_head n (by omega) c r q h
    · rfl
  · rfl
theorem valL_num {w : List UInt8} {n : Nat} (h0 : w ≠ []) (h5 : w.length ≤ 5) (hz : ¬ (1 < w.length ∧ w.head? = some 48)) (hd : decV w 0 = some n) : valL w = if n ≤ 65535 then some n else none := by
  have e : numL n = w := by
    cases w with
    | nil => exact absurd rfl h0
    | cons c r =>
      unfold decV at hd
      cases e : digV c with
      | none => rw [e] at hd; cases hd
      | some d =>
        rw [e] at hd
        obtain ⟨hd1, hc, hc2⟩ := digV_inv e
        have hd : decV r (10 * 0 + d) = some n := hd
        rw [Nat.mul_zero, Nat.zero_add] at hd
        by_cases hd0 : d = 0
        · cases r with
          | nil =>
            injection hd with hd
            rw [← hd, numL_lt (by omega), hc]
          | cons c2 r2 =>
            exfalso
            apply hz
            refine ⟨by simp, ?_⟩
            rw [← hc, hd0]; rfl
        · rw [decV_num r d n (by omega) hd, numL_lt hd1, hc]; rfl
  unfold valL
  rw [if_pos h5, hd]
  show (if n ≤ 65535 ∧ numL n = w then some n else none) = _
  by_cases q : n ≤ 65535
  · rw [if_pos q, if_pos ⟨q, e⟩]
  · rw [if_neg q, if_neg (fun h => q h.1)]
theorem valL_back {n : Nat} (h : n ≤ 65535) : valL (numL n) = some n := by
  have e := decV_back n []
  rw [List.append_nil] at e
  have e : decV (numL n) 0 = some n := e
  unfold valL
  rw [if_pos (numL_len 4 n (by omega)), e]
  show (if n ≤ 65535 ∧ numL n = numL n then some n else none) = _
  rw [if_pos ⟨h, rfl⟩]
/-! ### Sixteen signs -/
def hexD (k : Nat) : UInt8 := if k < 10 then UInt8.ofNat (48 + k) else UInt8.ofNat (87 + k)
def hexS : List UInt8 := [48, 49, 50, 51, 52, 53, 54, 55, 56, 57, 97, 98, 99, 100, 101, 102]
def hexV (c : UInt8) : Option Nat := if 48 ≤ c.toNat ∧ c.toNat ≤ 57 then some (c.toNat - 48) else if 97 ≤ c.toNat ∧ c.toNat ≤ 102 then some (c.toNat - 87) else none
theorem hexV_D : ∀ k : Fin 16, hexV (hexD k.val) = some k.val := by decide
theorem hexV_lt {c : UInt8} {d : Nat} (h : hexV c = some d) : d < 16 := by
  unfold hexV at h
  split at h
  · injection h with h; omega
  · split at h
    · injection h with h; omega
    · cases h
theorem hexV_index : ∀ n : Fin 256, Lib.indexByte hexS (UInt8.ofNat n.val) = (match hexV (UInt8.ofNat n.val) with | some d => (d : Int) | none => -1) := by decide +kernel
theorem hexV_ix (c : UInt8) : Lib.indexByte hexS c = (match hexV c with | some d => (d : Int) | none => -1) := by
  have := hexV_index ⟨c.toNat, c.toNat_lt⟩
  rw [UInt8.ofNat_toNat] at this
  exact this
def hexL : Nat → Nat → List UInt8
  | 0, _ => []
  | k + 1, v => hexL k (v / 16) ++ [hexD (v % 16)]
theorem hexL_len : ∀ k v, (hexL k v).length = k
  | 0, _ => rfl
  | k + 1, v => by simp [hexL, hexL_len k]
def hexN : List UInt8 → Nat → Option Nat
  | [], n => some n
  | c :: r, n => (hexV c).bind fun d => hexN r (16 * n + d)
theorem hexN_append : ∀ (l r : List UInt8) (m : Nat), hexN (l ++ r) m = (hexN l m).bind (hexN r)
  | [], r, m => rfl
  | c :: l, r, m => by
    show (hexV c).bind _ = ((hexV c).bind _).bind _
    cases hexV c with
    | none => rfl
    | some d => exact hexN_append l r _
theorem hexN_snoc (l : List UInt8) (c : UInt8) (m : Nat) : hexN (l ++ [c]) m = (hexN l m).bind fun n => (hexV c).bind fun d => some (16 * n + d) := by
  rw [hexN_append]; rfl
theorem hexN_bound : ∀ (w : List UInt8) (m n : Nat), hexN w m = some n → n < (m + 1) * 16 ^ w.length
  | [], m, n, h => by
    injection h with h
    simp; omega
  | c :: r, m, n, h => by
    unfold hexN at h
    cases e : hexV c with
    | none => rw [e] at h; cases h
    | some d =>
      rw [e] at h
      have hd := hexV_lt e
      have ih := hexN_bound r (16 * m + d) n h
      rw [List.length_cons, Nat.pow_succ]
      have : (16 * m + d + 1) * 16 ^ r.length ≤ (16 * (m + 1)) * 16 ^ r.length := Nat.mul_le_mul_right _ (by omega)
      have e2 : (m + 1) * (16 ^ r.length * 16) = (16 * (m + 1)) * 16 ^ r.length := by
        rw [Nat.mul_comm (16 ^ r.length) 16, ← Nat.mul_assoc, Nat.mul_comm (m + 1) 16]
      omega
theorem hexN_back : ∀ (k v : Nat), v < 16 ^ k → hexN (hexL k v) 0 = some v
  | 0, v, h => by
    have : v = 0 := by simpa using h
    rw [this]; rfl
  | k + 1, v, h => by
    rw [Nat.pow_succ] at h
    rw [hexL, hexN_snoc, hexN_back k (v / 16) (by omega)]
    show (hexV (hexD (v % 16))).bind _ = _
    rw [hexV_D ⟨v % 16, by omega⟩]
    show some (16 * (v / 16) + v % 16) = _
    rw [show 16 * (v / 16) + v % 16 = v by omega]
/-- The sixteen signs that a word spells. -/
def bitsL (w : List UInt8) : Option Nat := if w.length = 18 ∧ w.take 2 = [48, 120] then hexN (w.drop 2) 0 else none
theorem bitsL_back {v : Nat} (h : v < 18446744073709551616) : bitsL ([48, 120] ++ hexL 16 v) = some v := by
  unfold bitsL
  rw [if_pos ⟨by simp [hexL_len], by simp⟩, show (([48, 120] : List UInt8) ++ hexL 16 v).drop 2 = hexL 16 v by simp]
  exact hexN_back 16 v (Nat.lt_of_lt_of_le h (by decide))
theorem bitsL_lt {w : List UInt8} {v : Nat} (h : bitsL w = some v) : v < 18446744073709551616 := by
  unfold bitsL at h
  split at h
  · rename_i q
    have := hexN_bound _ _ _ h
    rw [List.length_drop, q.1] at this
    simpa using this
  · cases h
/-! ### Kinds -/
def kindS : List UInt8 := [105, 102, 114, 112]
def kindC (c : UInt8) : Option Int := if c = 105 then some 0 else if c = 102 then some 1 else if c = 114 then some 2 else if c = 112 then some 3 else none
def kindD (k : Int) : UInt8 := if k = 0 then 105 else if k = 1 then 102 else if k = 2 then 114 else 112
theorem kindC_index : ∀ n : Fin 256, Lib.indexByte kindS (UInt8.ofNat n.val) = (match kindC (UInt8.ofNat n.val) with | some d => d | none => -1) := by decide +kernel
theorem kindC_ix (c : UInt8) : Lib.indexByte kindS c = (match kindC c with | some d => d | none => -1) := by
  have := kindC_index ⟨c.toNat, c.toNat_lt⟩
  rw [UInt8.ofNat_toNat] at this
  exact this
theorem kindC_bd {c : UInt8} {d : Int} (h : kindC c = some d) : 0 ≤ d ∧ d ≤ 3 := by
  unfold kindC at h
  (repeat' split at h) <;> first | (injection h with h; omega) | cases h
theorem kindC_D {k : Int} (h : 0 ≤ k ∧ k ≤ 3) : kindC (kindD k) = some k := by
  rcases (show k = 0 ∨ k = 1 ∨ k = 2 ∨ k = 3 by omega) with rfl | rfl | rfl | rfl <;> decide
def kindP : List UInt8 → Option (List Int)
  | [] => some []
  | c :: r => (kindC c).bind fun k => (kindP r).bind fun l => some (k :: l)
theorem kindP_append : ∀ (l r : List UInt8), kindP (l ++ r) = (kindP l).bind fun a => (kindP r).bind fun b => some (a ++ b)
  | [], r => by
    show kindP r = (kindP r).bind fun b => some b
    cases kindP r <;> rfl
  | c :: l, r => by
    show (kindC c).bind _ = ((kindC c).bind _).bind _
    cases kindC c with
    | none => rfl
    | some k =>
      show (kindP (l ++ r)).bind _ = ((kindP l).bind _).bind _
      rw [kindP_append l r]
      cases kindP l with
      | none => rfl
      | some a =>
        show ((kindP r).bind _).bind _ = (kindP r).bind _
        cases kindP r <;> rfl
theorem kindP_snoc (l : List UInt8) (c : UInt8) : kindP (l ++ [c]) = (kindP l).bind fun a => (kindC c).bind fun k => some (a ++ [k]) := by
  rw [kindP_append]
  cases kindP l with
  | none => rfl
  | some a =>
    show ((kindC c).bind _).bind _ = (kindC c).bind _
    cases kindC c <;> rfl
theorem kindP_len : ∀ {l : List UInt8} {a : List Int}, kindP l = some a → a.length = l.length
  | [], a, h => by injection h with h; rw [← h]; rfl
  | c :: l, a, h => by
    unfold kindP at h
    cases e : kindC c with
    | none => rw [e] at h; cases h
    | some k =>
      rw [e] at h
      have h : (kindP l).bind (fun l => some (k :: l)) = some a := h
      cases e2 : kindP l with
      | none => rw [e2] at h; cases h
      | some b =>
        rw [e2] at h
        injection h with h
        rw [← h, List.length_cons, List.length_cons, kindP_len e2]
theorem kindP_map : ∀ (l : List Int), (∀ k ∈ l, 0 ≤ k ∧ k ≤ 3) → kindP (l.map kindD) = some l
  | [], _ => rfl
  | k :: l, h => by
    rw [List.map_cons]
    show (kindC (kindD k)).bind _ = _
    rw [kindC_D (h k (List.mem_cons_self ..))]
    show (kindP (l.map kindD)).bind _ = _
    rw [kindP_map l (fun j hj => h j (List.mem_cons_of_mem _ hj))]; rfl
def kindsL (l : List Int) : List UInt8 := if l = [] then [45] else l.map kindD
def listL (w : List UInt8) : Option (List Int) := if w = [45] then some [] else kindP w
theorem kindD_ne (k : Int) : kindD k ≠ 45 := by
  unfold kindD
  (repeat' split) <;> decide
theorem listL_back {l : List Int} (h : ∀ k ∈ l, 0 ≤ k ∧ k ≤ 3) : listL (kindsL l) = some l := by
  unfold kindsL
  by_cases e : l = []
  · rw [if_pos e, e]; rfl
  · rw [if_neg e]
    unfold listL
    rw [if_neg, kindP_map l h]
    intro q
    cases l with
    | nil => exact e rfl
    | cons k r =>
      injection q with q _
      exact kindD_ne k q
/-! ### Words -/
def isB (c : UInt8) : Bool := c == 32 || c == 9
def isBR (r : Nat) : Bool := r == 32 || r == 9
def wordsGo : List UInt8 → List UInt8 → List (List UInt8)
  | w, [] => if w = [] then [] else [w]
  | w, c :: r => if c = 59 then (if w = [] then [] else [w]) else if isB c = true then (if w = [] then wordsGo [] r else w :: wordsGo [] r) else wordsGo (w ++ [c]) r
def wordsL (l : List UInt8) : List (List UInt8) := wordsGo [] l
/-- The same, where a remark's sign is a letter. -/
def wordsP : List UInt8 → List UInt8 → List (List UInt8)
  | w, [] => if w = [] then [] else [w]
  | w, c :: r => if isB c = true then (if w = [] then wordsP [] r else w :: wordsP [] r) else wordsP (w ++ [c]) r
def uptoC (c : UInt8) : List UInt8 → List UInt8
  | [] => []
  | b :: r => if b = c then [] else b :: uptoC c r
theorem words_cut : ∀ (l w : List UInt8), wordsGo w l = wordsP w (uptoC 59 l)
  | [], w => rfl
  | c :: r, w => by
    unfold wordsGo uptoC
    by_cases h : c = 59
    · rw [if_pos h, if_pos h]; rfl
    · rw [if_neg h, if_neg h]
      unfold wordsP
      by_cases hb : isB c = true
      · rw [if_pos hb, if_pos hb, words_cut r []]
      · rw [if_neg hb, if_neg hb, words_cut r (w ++ [c])]
theorem words_all : ∀ (l w x : List UInt8), x ∈ wordsGo w l → x ≠ []
  | [], w, x, h => by
    unfold wordsGo at h
    split at h
    · cases h
    · rename_i q
      simp only [List.mem_cons, List.not_mem_nil, or_false] at h
      rw [h]; exact q
  | c :: r, w, x, h => by
    unfold wordsGo at h
    split at h
    · split at h
      · cases h
      · rename_i q
        simp only [List.mem_cons, List.not_mem_nil, or_false] at h
        rw [h]; exact q
    · split at h
      · split at h
        · exact words_all r [] x h
        · rename_i q
          rcases List.mem_cons.1 h with e | e
          · rw [e]; exact q
          · exact words_all r [] x e
      · exact words_all r _ x h
theorem words_len : ∀ (l w : List UInt8), (wordsGo w l).length ≤ l.length + 1
  | [], w => by unfold wordsGo; split <;> simp
  | c :: r, w => by
    unfold wordsGo
    have h1 := words_len r []
    have h2 := words_len r (w ++ [c])
    (repeat' split) <;> simp <;> omega
theorem index_one : ∀ (l : List UInt8) (c : UInt8), (Lib.index l [c] = -1 ∧ uptoC c l = l) ∨ (∃ i : Nat, Lib.index l [c] = i ∧ i < l.length ∧ uptoC c l = l.take i ∧ l[i]? = some c)
  | [], c => Or.inl ⟨rfl, rfl⟩
  | b :: l, c => by
    unfold Lib.index uptoC
    by_cases h : b = c
    · right
      refine ⟨0, ?_, by simp, ?_, ?_⟩
      · rw [if_pos (by simp [List.isPrefixOf, h])]; rfl
      · rw [if_pos h]; rfl
      · rw [h]; rfl
    · have hp : ([c] : List UInt8).isPrefixOf (b :: l) = false := by simp [List.isPrefixOf, Ne.symm h]
      rw [hp, if_neg h]
      rcases index_one l c with ⟨h1, h2⟩ | ⟨i, h1, h2, h3, h4⟩
      · left
        rw [h1, h2]
        exact ⟨rfl, rfl⟩
      · right
        refine ⟨i + 1, ?_, by simp; omega, ?_, ?_⟩
        · rw [h1]
          have : ((i : Int) == -1) = false := by rw [beq_eq_false_iff_ne]; omega
          simp [this]
        · rw [h3]; rfl
        · simpa using h4
theorem cut_upto (l : List UInt8) (c : UInt8) : (Lib.cut l [c]).1 = uptoC c l := by
  unfold Lib.cut
  rcases index_one l c with ⟨h1, h2⟩ | ⟨i, h1, _, h3, _⟩
  · rw [h1, if_neg (by omega), h2]
  · rw [h1, if_pos (by omega), h3]; rfl
theorem uptoC_len (c : UInt8) : ∀ l : List UInt8, (uptoC c l).length ≤ l.length
  | [] => Nat.le_refl _
  | b :: r => by
    have := uptoC_len c r
    unfold uptoC
    split <;> simp <;> omega
/-! ### Runes: what is no blank is no blank -/
theorem decN_high (n b0 b1 b2 b3 : Nat) (h : 128 ≤ b0) : 128 ≤ (Lib.decodeN n b0 b1 b2 b3).1 ∧ (1 < (Lib.decodeN n b0 b1 b2 b3).2 → 128 ≤ b1) ∧ (2 < (Lib.decodeN n b0 b1 b2 b3).2 → 128 ≤ b2) ∧ (3 < (Lib.decodeN n b0 b1 b2 b3).2 → 128 ≤ b3) ∧ (Lib.decodeN n b0 b1 b2 b3).2 ≤ 4 := by
  unfold Lib.decodeN
  (repeat' split) <;> simp_all [Utf8.runeError] <;> omega
theorem isB_high {c : UInt8} (h : 128 ≤ c.toNat) : isB c = false := by
  unfold isB
  rw [Bool.or_eq_false_iff]
  constructor
  · rw [beq_eq_false_iff_ne]; intro e; rw [e] at h; have : (32 : UInt8).toNat = 32 := rfl; omega
  · rw [beq_eq_false_iff_ne]; intro e; rw [e] at h; have : (9 : UInt8).toNat = 9 := rfl; omega
theorem wordsP_run : ∀ (a w r : List UInt8), (∀ c ∈ a, isB c = false) → wordsP w (a ++ r) = wordsP (w ++ a) r
  | [], w, r, _ => by rw [List.append_nil]; rfl
  | c :: a, w, r, h => by
    show (if isB c = true then _ else _) = _
    rw [if_neg (by rw [h c (List.mem_cons_self ..)]; decide)]
    show wordsP (w ++ [c]) (a ++ r) = _
    rw [wordsP_run a _ r (fun x hx => h x (List.mem_cons_of_mem _ hx)), List.append_assoc]; rfl
theorem isBR_low {c : UInt8} : isBR c.toNat = isB c := by
  unfold isBR isB
  have e1 : (c.toNat == 32) = (c == 32) := by
    by_cases h : c = 32
    · rw [h]; rfl
    · rw [beq_eq_false_iff_ne.2 h, beq_eq_false_iff_ne]
      intro q
      exact h (UInt8.toNat_inj.1 (by rw [q]; rfl))
  have e2 : (c.toNat == 9) = (c == 9) := by
    by_cases h : c = 9
    · rw [h]; rfl
    · rw [beq_eq_false_iff_ne.2 h, beq_eq_false_iff_ne]
      intro q
      exact h (UInt8.toNat_inj.1 (by rw [q]; rfl))
  rw [e1, e2]
theorem isBR_high {n : Nat} (h : 128 ≤ n) : isBR n = false := by
  unfold isBR
  rw [Bool.or_eq_false_iff]
  exact ⟨beq_eq_false_iff_ne.2 (by omega), beq_eq_false_iff_ne.2 (by omega)⟩
/-- One rune: a blank alone, or bytes none of which is a blank. -/
theorem rune_cases (s : ByteArray) (pos : Nat) (h : pos < s.size) : pos + (Utf8.decode s pos).2 ≤ s.size ∧ 1 ≤ (Utf8.decode s pos).2 ∧ ((isBR (Utf8.decode s pos).1 = true ∧ ∃ c, s.data.toList.drop pos = c :: s.data.toList.drop (pos + (Utf8.decode s pos).2) ∧ isB c = true) ∨ (isBR (Utf8.decode s pos).1 = false ∧ ∀ c ∈ (s.data.toList.drop pos).take (Utf8.decode s pos).2, isB c = false)) := by
  have hl : pos < s.data.toList.length := by rw [← Lib.size_eq]; exact h
  have hdr : s.data.toList.drop pos = s.data.toList[pos] :: s.data.toList.drop (pos + 1) := List.drop_eq_getElem_cons hl
  have hw := Lib.decodeN_le_n' (s.data.toList.length - pos) (s.data.toList.getD pos 0).toNat (s.data.toList.getD (pos + 1) 0).toNat (s.data.toList.getD (pos + 2) 0).toNat (s.data.toList.getD (pos + 3) 0).toNat (by omega)
  have hg : s.data.toList.getD pos 0 = s.data.toList[pos] := by rw [List.getD_eq_getElem?_getD, List.getElem?_eq_getElem hl]; rfl
  have hwp := Lib.width_pos s pos
  rw [← Lib.decode_N] at hw
  refine ⟨by rw [Lib.size_eq]; omega, hwp, ?_⟩
  by_cases hc : s.data.toList[pos].toNat < 128
  · have hsz : s[pos]'h = s.data.toList[pos] := by simp; rfl
    have hd := decode_ascii s pos h (by rw [hsz]; exact hc)
    rw [hsz] at hd
    rw [hd]
    show (isBR s.data.toList[pos].toNat = true ∧ _) ∨ (isBR s.data.toList[pos].toNat = false ∧ _)
    rw [isBR_low]
    cases hb : isB s.data.toList[pos] with
    | true => exact Or.inl ⟨rfl, _, hdr, hb⟩
    | false =>
      refine Or.inr ⟨rfl, ?_⟩
      rw [hdr]
      intro c hm
      have hm : c ∈ [s.data.toList[pos]] := by simpa using hm
      rw [List.mem_singleton.1 hm]; exact hb
  · have hh := decN_high (s.data.toList.length - pos) (s.data.toList.getD pos 0).toNat (s.data.toList.getD (pos + 1) 0).toNat (s.data.toList.getD (pos + 2) 0).toNat (s.data.toList.getD (pos + 3) 0).toNat (by rw [hg]; omega)
    rw [← Lib.decode_N] at hh
    obtain ⟨h1, h2, h3, h4, h5⟩ := hh
    refine Or.inr ⟨isBR_high h1, fun c hm => ?_⟩
    obtain ⟨j, hj, rfl⟩ := List.getElem_of_mem hm
    rw [List.length_take, List.length_drop] at hj
    rw [List.getElem_take, List.getElem_drop]
    have hgj : s.data.toList.getD (pos + j) 0 = s.data.toList[pos + j]'(by omega) := by rw [List.getD_eq_getElem?_getD, List.getElem?_eq_getElem (by omega)]; rfl
    rcases (show j = 0 ∨ j = 1 ∨ j = 2 ∨ j = 3 by omega) with rfl | rfl | rfl | rfl
    · exact isB_high (by show 128 ≤ (s.data.toList[pos + 0]).toNat; simp only [Nat.add_zero]; omega)
    · exact isB_high (by rw [← hgj]; exact h2 (by omega))
    · exact isB_high (by rw [← hgj]; exact h3 (by omega))
    · exact isB_high (by rw [← hgj]; exact h4 (by omega))
def pieceS (l : List UInt8) (st : Option Nat) (pos : Nat) : List UInt8 := match st with | some a => Lib.pieceU l a pos | none => []
theorem spansP_eq (s : ByteArray) : ∀ (f pos : Nat) (st : Option Nat) (acc : List (Nat × Nat)), s.size ≤ pos + f → pos ≤ s.size → (∀ a, st = some a → a < pos) →
    (Lib.closeSpans s (Lib.spansFromP isBR s f pos st acc)).map (fun p => Lib.pieceU s.data.toList p.1 p.2) = acc.map (fun p => Lib.pieceU s.data.toList p.1 p.2) ++ wordsP (pieceS s.data.toList st pos) (s.data.toList.drop pos) := by
  have hend : ∀ (f : Nat) (st : Option Nat) (acc : List (Nat × Nat)), (∀ a, st = some a → a < s.size) → (Lib.closeSpans s (Lib.spansFromP isBR s f s.size st acc)).map (fun p => Lib.pieceU s.data.toList p.1 p.2) = acc.map (fun p => Lib.pieceU s.data.toList p.1 p.2) ++ wordsP (pieceS s.data.toList st s.size) (s.data.toList.drop s.size) := by
    intro f st acc hst
    rw [Lib.spansFromP_end isBR s f s.size st acc (by omega), List.drop_eq_nil_of_le (by rw [← Lib.size_eq]; exact Nat.le_refl _)]
    cases st with
    | none => simp [Lib.closeSpans, pieceS, wordsP]
    | some a =>
      have := Lib.pieceU_ne s.data.toList a s.size (hst a rfl) (by rw [← Lib.size_eq]; exact Nat.le_refl _)
      simp [Lib.closeSpans, pieceS, wordsP, this]
  intro f
  induction f with
  | zero =>
    intro pos st acc h hp hst
    obtain rfl : pos = s.size := by omega
    exact hend 0 st acc hst
  | succ f ih =>
    intro pos st acc h hp hst
    by_cases hlt : pos < s.size
    · obtain ⟨hw, hw1, hc⟩ := rune_cases s pos hlt
      simp only [Lib.spansFromP, if_pos hlt]
      rcases hc with ⟨hb, c, hd, hbc⟩ | ⟨hb, hall⟩
      · simp only [hb, if_true]
        rw [hd]
        cases st with
        | none =>
          rw [ih _ none acc (by omega) hw (fun a h => by cases h)]
          simp [pieceS, wordsP, hbc]
        | some a =>
          have hpn := Lib.pieceU_ne s.data.toList a pos (hst a rfl) (by rw [← Lib.size_eq]; omega)
          simp only
          rw [ih _ none (acc ++ [(a, pos)]) (by omega) hw (fun a h => by cases h)]
          simp [pieceS, wordsP, hbc, hpn]
      · simp only [hb, Bool.false_eq_true, if_false]
        have hsp : s.data.toList.drop pos = (s.data.toList.drop pos).take (Utf8.decode s pos).2 ++ s.data.toList.drop (pos + (Utf8.decode s pos).2) := by
          rw [← List.drop_drop, List.take_append_drop]
        have hgo : ∀ w, wordsP w (s.data.toList.drop pos) = wordsP (w ++ (s.data.toList.drop pos).take (Utf8.decode s pos).2) (s.data.toList.drop (pos + (Utf8.decode s pos).2)) := fun w => by
          rw [hsp, wordsP_run _ _ _ hall, ← hsp]
        rw [hgo]
        cases st with
        | none =>
          simp only
          rw [ih _ (some pos) acc (by omega) hw (fun a h => by injection h with h; omega)]
          show _ ++ wordsP (Lib.pieceU _ _ _) _ = _ ++ wordsP ([] ++ _) _
          unfold Lib.pieceU
          rw [List.nil_append, Nat.add_sub_cancel_left]
        | some a =>
          simp only
          rw [ih _ (some a) acc (by omega) hw (fun b h => by injection h with h; have := hst a rfl; omega)]
          show _ ++ wordsP (Lib.pieceU _ _ _) _ = _ ++ wordsP (Lib.pieceU _ _ _ ++ _) _
          rw [Lib.pieceU_grow _ _ _ _ (Nat.le_of_lt (hst a rfl))]
    · obtain rfl : pos = s.size := by omega
      exact hend (f + 1) st acc hst
/-- FieldsFunc at the blanks gives the words. -/
theorem fields_words (s : ByteArray) : (Lib.goFieldsP isBR s).map (·.data.toList) = wordsP [] s.data.toList := by
  have := spansP_eq s s.size 0 none [] (by omega) (Nat.zero_le _) (fun a h => by cases h)
  unfold Lib.goFieldsP
  rw [List.map_map]
  have e : (fun x : Nat × Nat => (s.extract x.1 x.2).data.toList) = fun p => Lib.pieceU s.data.toList p.1 p.2 := by
    funext x
    rw [Lib.extract_data]
    unfold Lib.pieceU
    simp
  show ((Lib.spansOfP isBR s).map (fun x : Nat × Nat => (s.extract x.1 x.2).data.toList)) = _
  rw [e]
  exact this
/-! ### Lines -/
def linesGo : List UInt8 → List UInt8 → List (List UInt8)
  | w, [] => [w]
  | w, c :: r => if c = 10 then w :: linesGo [] r else linesGo (w ++ [c]) r
def linesL (l : List UInt8) : List (List UInt8) := linesGo [] l
theorem lines_one : ∀ (l w : List UInt8), Lib.index l [10] = -1 → linesGo w l = [w ++ l]
  | [], w, _ => by rw [List.append_nil]; rfl
  | c :: r, w, h => by
    have hc : c ≠ 10 := fun e => by
      rw [e] at h
      unfold Lib.index at h
      rw [if_pos (by simp [List.isPrefixOf])] at h
      cases h
    have hr : Lib.index r [10] = -1 := by
      unfold Lib.index at h
      rw [if_neg (by simp [List.isPrefixOf, Ne.symm hc])] at h
      by_cases q : Lib.index r [10] = -1
      · exact q
      · rw [if_neg (by simpa using q)] at h
        have := Lib.index_ge r [10]
        omega
    show (if c = 10 then _ else _) = _
    rw [if_neg hc, lines_one r _ hr, List.append_assoc]; rfl
theorem lines_hit : ∀ (l w : List UInt8) (i : Nat), Lib.index l [10] = i → linesGo w l = (w ++ l.take i) :: linesGo [] (l.drop (i + 1))
  | [], w, i, h => by
    have : Lib.index [] [10] = -1 := rfl
    omega
  | c :: r, w, i, h => by
    by_cases hc : c = 10
    · have : i = 0 := by
        rw [hc] at h
        unfold Lib.index at h
        rw [if_pos (by simp [List.isPrefixOf])] at h
        omega
      subst this
      show (if c = 10 then _ else _) = _
      rw [if_pos hc, List.take_zero, List.append_nil]; rfl
    · unfold Lib.index at h
      rw [if_neg (by simp [List.isPrefixOf, Ne.symm hc])] at h
      have hge := Lib.index_ge r [10]
      by_cases q : Lib.index r [10] = -1
      · rw [if_pos (by simpa using q)] at h; omega
      · rw [if_neg (by simpa using q)] at h
        obtain ⟨j, hj⟩ : ∃ j : Nat, i = j + 1 := ⟨i - 1, by omega⟩
        subst hj
        show (if c = 10 then _ else _) = _
        rw [if_neg hc, lines_hit r _ j (by omega), List.append_assoc]; rfl
theorem split_lines : ∀ (k : Nat) (l : List UInt8), Lib.count l [10] = k → Lib.splitK [10] 0 k l = linesL l := by
  intro k
  induction k with
  | zero =>
    intro l h
    have : Lib.index l [10] = -1 := by
      rcases index_one l 10 with ⟨q, _⟩ | ⟨i, q, _⟩
      · exact q
      · have := Lib.count_hit (by simp) q; omega
    unfold linesL
    rw [lines_one l [] this]; rfl
  | succ k ih =>
    intro l h
    rcases index_one l 10 with ⟨q, _⟩ | ⟨i, q, _⟩
    · rw [Lib.count_miss q] at h; omega
    · have hc := Lib.count_hit (by simp) q
      unfold linesL
      rw [lines_hit l [] i q]
      unfold Lib.splitK
      rw [if_neg (by rw [q, beq_iff_eq]; omega), q]
      show l.take i :: Lib.splitK [10] 0 k (l.drop (i + 1)) = _
      rw [ih (l.drop (i + 1)) (by simp only [List.length_cons, List.length_nil, Nat.zero_add] at hc; omega)]; rfl
theorem lines_len : ∀ (l w : List UInt8), (linesGo w l).length ≤ l.length + 1
  | [], w => by simp [linesGo]
  | c :: r, w => by
    unfold linesGo
    have h1 := lines_len r []
    have h2 := lines_len r (w ++ [c])
    split <;> simp <;> omega
theorem lines_each : ∀ (l w x : List UInt8), x ∈ linesGo w l → x.length ≤ w.length + l.length
  | [], w, x, h => by
    simp only [linesGo, List.mem_cons, List.not_mem_nil, or_false] at h
    rw [h]; simp
  | c :: r, w, x, h => by
    unfold linesGo at h
    split at h
    · rcases List.mem_cons.1 h with e | e
      · rw [e]; simp
      · have := lines_each r [] x e
        simp at this ⊢; omega
    · have := lines_each r _ x h
      simp at this ⊢; omega
end Go.Proofs.YtedmjlhgpdeafaaDoor
