/- Layer 7, plain: what a whole slab is, and what taking, dropping and giving make of it. No program in sight. No conditions beside those stated. -/
import Derived.Test.YtgbbnmjfkhconaaSla1
namespace Go.Proofs.Ytgbbnmjfkhconaa
set_option linter.unusedVariables false
set_option linter.unusedSimpArgs false
theorem o_getL_putL : ∀ (n : Nat) (v : Int), 0 ≤ v → getL (putL n v) = v % 256 ^ n
  | 0, v, _ => by
    show (0 : Int) = v % 256 ^ 0
    rw [Int.pow_zero, Int.emod_one]
  | n + 1, v, hv => by
    rw [putL_snoc, getL_snoc, o_getL_putL n v hv, putL_length]
    unfold byteAt
    obtain ⟨V, rfl⟩ := Int.eq_ofNat_of_zero_le hv
    have p : (256 : Int) ^ n = ((256 ^ n : Nat) : Int) := by rw [Int.natCast_pow]; rfl
    have p2 : (256 : Int) ^ (n + 1) = ((256 ^ (n + 1) : Nat) : Int) := by rw [Int.natCast_pow]; rfl
    rw [p, p2, ← Int.natCast_ediv, ← Int.natCast_emod]
    rw [show (256 : Int) = ((256 : Nat) : Int) from rfl, ← Int.natCast_emod, ← Int.natCast_mul, ← Int.natCast_add, ← Int.natCast_emod]
    rw [Nat.pow_succ, Nat.mod_mul, Nat.mul_comm (256 ^ n)]
theorem o_word {v : Int} (h : 0 ≤ v) (h2 : v < 18446744073709551616) : getL (putL 8 v) = v := by
  rw [o_getL_putL 8 v h, show (256 : Int) ^ 8 = 18446744073709551616 from rfl]; exact Int.emod_eq_of_lt h h2
theorem lay_out {L M : List Int} {k : Nat} (h : k + M.length ≤ L.length) (i : Nat) (ho : i < k ∨ k + M.length ≤ i) : (lay L k M)[i]? = L[i]? := by
  unfold lay
  rcases ho with q | q
  · rw [List.append_assoc, List.getElem?_append_left (by rw [List.length_take]; omega), List.getElem?_take_of_lt q]
  · have e : (L.take k ++ M).length = k + M.length := by rw [List.length_append, List.length_take]; omega
    rw [List.getElem?_append_right (by rw [e]; exact q), e, List.getElem?_drop]
    congr 1; omega
theorem getW_same {L : List Int} {k : Nat} {v : Int} (h : k + 8 ≤ L.length) (hv : 0 ≤ v) (hv2 : v < 18446744073709551616) : getW (lay L k (putL 8 v)) k = v := by
  have e : ((lay L k (putL 8 v)).drop k).take 8 = putL 8 v := by
    unfold lay
    rw [List.append_assoc, List.drop_append_of_le_length (by rw [List.length_take]; omega), List.drop_eq_nil_of_le (by rw [List.length_take]; omega), List.nil_append, List.take_append_of_le_length (by rw [putL_length]; exact Nat.le_refl _), List.take_of_length_le (by rw [putL_length]; exact Nat.le_refl _)]
  unfold getW
  rw [e, o_word hv hv2]
theorem getW_other {L : List Int} {k q : Nat} {v : Int} (h : k + 8 ≤ L.length) (ho : q + 8 ≤ k ∨ k + 8 ≤ q) : getW (lay L k (putL 8 v)) q = getW L q := by
  unfold getW
  congr 1
  apply List.ext_getElem?
  intro i
  by_cases hi : i < 8
  · rw [List.getElem?_take_of_lt hi, List.getElem?_take_of_lt hi, List.getElem?_drop, List.getElem?_drop]
    exact lay_out (by rw [putL_length]; exact h) _ (by rw [putL_length]; omega)
  · rw [List.getElem?_eq_none (by rw [List.length_take]; omega), List.getElem?_eq_none (by rw [List.length_take]; omega)]
/-- Sizes and numbers of slots. -/
def ClsOf (c : Int) (Z N : Nat) : Prop := (c = 0 ∧ Z = 16 ∧ N = 16) ∨ (c = 1 ∧ Z = 32 ∧ N = 8) ∨ (c = 2 ∧ Z = 64 ∧ N = 4) ∨ (c = 3 ∧ Z = 128 ∧ N = 2)
theorem cls_nums {c : Int} {Z N : Nat} (h : ClsOf c Z N) : sizeI c = Z ∧ slotsI c = N ∧ roomI c = ((Z - 8 : Nat) : Int) ∧ mayB c = true := by
  rcases h with ⟨rfl, rfl, rfl⟩ | ⟨rfl, rfl, rfl⟩ | ⟨rfl, rfl, rfl⟩ | ⟨rfl, rfl, rfl⟩ <;> decide
theorem cls_bd {c : Int} {Z N : Nat} (h : ClsOf c Z N) : 16 ≤ Z ∧ Z ≤ 128 ∧ 2 ≤ N ∧ N ≤ 16 ∧ Z % 8 = 0 := by
  rcases h with ⟨rfl, rfl, rfl⟩ | ⟨rfl, rfl, rfl⟩ | ⟨rfl, rfl, rfl⟩ | ⟨rfl, rfl, rfl⟩ <;> decide
theorem cls_in {c : Int} {Z N k : Nat} (h : ClsOf c Z N) (hk : k < N) : Z * k + Z ≤ 256 := by
  rcases h with ⟨rfl, rfl, rfl⟩ | ⟨rfl, rfl, rfl⟩ | ⟨rfl, rfl, rfl⟩ | ⟨rfl, rfl, rfl⟩ <;> omega
theorem cls_apart {c : Int} {Z N j k : Nat} (h : ClsOf c Z N) (hj : j ≠ k) : Z * j + Z ≤ Z * k ∨ Z * k + Z ≤ Z * j := by
  rcases h with ⟨rfl, rfl, rfl⟩ | ⟨rfl, rfl, rfl⟩ | ⟨rfl, rfl, rfl⟩ | ⟨rfl, rfl, rfl⟩ <;> omega
theorem cls_al {c : Int} {P Z N k : Nat} (h : ClsOf c Z N) : (256 * P + Z * k) % 8 = 0 ∧ (256 * P + Z * k + (Z - 8)) % 8 = 0 := by
  rcases h with ⟨rfl, rfl, rfl⟩ | ⟨rfl, rfl, rfl⟩ | ⟨rfl, rfl, rfl⟩ | ⟨rfl, rfl, rfl⟩ <;> omega
theorem cls_slot {c : Int} {Z N P k : Nat} (h : ClsOf c Z N) (hk : k < N) : (256 * P + Z * k) / 256 = P ∧ (256 * P + Z * k) % 256 / Z = k := by
  rcases h with ⟨rfl, rfl, rfl⟩ | ⟨rfl, rfl, rfl⟩ | ⟨rfl, rfl, rfl⟩ | ⟨rfl, rfl, rfl⟩ <;> omega
theorem cls_of (c : Int) (h0 : 0 ≤ c) (h1 : c < 4) : ∃ Z N, ClsOf c Z N := by
  rcases (show c = 0 ∨ c = 1 ∨ c = 2 ∨ c = 3 by omega) with rfl | rfl | rfl | rfl
  · exact ⟨16, 16, Or.inl ⟨rfl, rfl, rfl⟩⟩
  · exact ⟨32, 8, Or.inr (Or.inl ⟨rfl, rfl, rfl⟩)⟩
  · exact ⟨64, 4, Or.inr (Or.inr (Or.inl ⟨rfl, rfl, rfl⟩))⟩
  · exact ⟨128, 2, Or.inr (Or.inr (Or.inr ⟨rfl, rfl, rfl⟩))⟩
/-- Where a slot begins. -/
def bsN (P Z k : Nat) : Nat := 256 * P + Z * k
def hdI (P Z : Nat) : List Nat → Int
  | [] => -1
  | k :: _ => ((bsN P Z k : Nat) : Int)
def ChainL (L : List Int) (key : Int) (P Z : Nat) : List Nat → Prop
  | [] => True
  | k :: fl => getW L (bsN P Z k) = putI key ((bsN P Z k : Nat) : Int) (hdI P Z fl) ∧ ChainL L key P Z fl
structure SGood (m : SlM) (P Z N : Nat) (fl : List Nat) : Prop where
  pg : m.pg = P
  pm : P < 256
  zn : ClsOf m.cl Z N
  ll : m.ll.length = N
  hl : m.hl.length = N
  fit : 256 * P + 256 ≤ m.L.length
  mx : m.L.length ≤ 65536
  nd : fl.Nodup
  fr : ∀ k, k ∈ fl ↔ k < N ∧ m.ll.getD k false = false ∧ m.hl.getD k false = false
  two : ∀ k, m.ll.getD k false = true → m.hl.getD k false = false
  ch : ChainL m.L m.key P Z fl
  fst : m.fst = hdI P Z fl
  can : ∀ k, k < N → m.ll.getD k false = true → getW m.L (bsN P Z k + (Z - 8)) = canI m.key ((bsN P Z k : Nat) : Int)
  gone : ∀ k, k < N → m.hl.getD k false = true → ∀ i, i < Z → m.L.getD (bsN P Z k + i) 0 = 221
variable {m : SlM} {P Z N : Nat} {fl : List Nat}
theorem good_base (h : SGood m P Z N fl) {k : Nat} (hk : k < N) : baseI m.pg m.cl k = ((bsN P Z k : Nat) : Int) := by
  obtain ⟨e1, e2, _, _⟩ := cls_nums h.zn
  have := h.pm
  unfold baseI
  rw [e1, e2, h.pg, if_pos (by omega)]
  unfold bsN
  simp
theorem good_room (h : SGood m P Z N fl) {k : Nat} (hk : k < N) : canAt m k = ((bsN P Z k + (Z - 8) : Nat) : Int) := by
  unfold canAt
  rw [good_base h hk, (cls_nums h.zn).2.2.1]
  simp
theorem good_in (h : SGood m P Z N fl) {k : Nat} (hk : k < N) : bsN P Z k + Z ≤ m.L.length := by
  have := cls_in h.zn hk
  have := h.fit
  unfold bsN; omega
theorem good_word (h : SGood m P Z N fl) {k : Nat} (hk : k < N) : wordE m.L.length ((bsN P Z k : Nat) : Int) = 0 ∧ wordE m.L.length ((bsN P Z k + (Z - 8) : Nat) : Int) = 0 := by
  have h1 := good_in h hk
  obtain ⟨z1, z2, _, _, _⟩ := cls_bd h.zn
  have h2 : bsN P Z k % 8 = 0 ∧ (bsN P Z k + (Z - 8)) % 8 = 0 := cls_al h.zn
  constructor
  · unfold wordE
    rw [show (8 : Int) = ((8 : Nat) : Int) from rfl, inE_ok (by omega), if_pos rfl, if_pos (by omega)]
  · unfold wordE
    rw [show (8 : Int) = ((8 : Nat) : Int) from rfl, inE_ok (by omega), if_pos rfl, if_pos (by omega)]
theorem good_st (h : SGood m P Z N fl) (k : Int) : stI m k = if 0 ≤ k ∧ k < N then (if m.ll.getD k.toNat false = true then 1 else if m.hl.getD k.toNat false = true then 2 else 0) else -1 := by
  unfold stI hasL
  rw [h.ll, h.hl]
  by_cases q : 0 ≤ k ∧ k < N
  · rw [if_pos q, if_pos q, decide_eq_true q, Bool.true_and, Bool.true_and]
  · rw [if_neg q, if_neg q]
theorem good_st_nat (h : SGood m P Z N fl) {k : Nat} (hk : k < N) : stI m k = if m.ll.getD k false = true then 1 else if m.hl.getD k false = true then 2 else 0 := by
  rw [good_st h, if_pos (by omega), Int.toNat_natCast]
theorem good_st1 (h : SGood m P Z N fl) {k : Int} (hk : stI m k = 1) : ∃ j : Nat, k = j ∧ j < N ∧ m.ll.getD j false = true := by
  rw [good_st h] at hk
  split at hk
  · rename_i q
    split at hk
    · rename_i z
      exact ⟨k.toNat, by omega, by omega, z⟩
    · split at hk <;> cases hk
  · cases hk
theorem good_st2 (h : SGood m P Z N fl) {k : Int} (hk : stI m k = 2) : ∃ j : Nat, k = j ∧ j < N ∧ m.ll.getD j false = false ∧ m.hl.getD j false = true := by
  rw [good_st h] at hk
  split at hk
  · rename_i q
    split at hk
    · cases hk
    · rename_i z
      split at hk
      · rename_i y
        exact ⟨k.toNat, by omega, by omega, Bool.eq_false_iff.2 z, y⟩
      · cases hk
  · cases hk
theorem good_free (h : SGood m P Z N fl) {k : Nat} : k ∈ fl ↔ k < N ∧ stI m k = 0 := by
  rw [h.fr]
  constructor
  · rintro ⟨h1, h2, h3⟩
    exact ⟨h1, by rw [good_st_nat h h1, h2, h3]; rfl⟩
  · rintro ⟨h1, h2⟩
    rw [good_st_nat h h1] at h2
    split at h2
    · cases h2
    · rename_i z
      split at h2
      · cases h2
      · rename_i y
        exact ⟨h1, Bool.eq_false_iff.2 z, Bool.eq_false_iff.2 y⟩
theorem hdI_bd (P Z : Nat) (hP : P < 256) (fl : List Nat) (h : ∀ k ∈ fl, Z * k + Z ≤ 256) : -1 ≤ hdI P Z fl ∧ hdI P Z fl ≤ 65536 := by
  cases fl with
  | nil => show -1 ≤ (-1 : Int) ∧ (-1 : Int) ≤ 65536; omega
  | cons k l =>
    have := h k (List.mem_cons_self ..)
    show -1 ≤ ((256 * P + Z * k : Nat) : Int) ∧ ((256 * P + Z * k : Nat) : Int) ≤ 65536
    omega
/-- What is laid elsewhere leaves a word. -/
theorem word_out {L M : List Int} {k q : Nat} (h : k + M.length ≤ L.length) (ho : q + 8 ≤ k ∨ k + M.length ≤ q) : getW (lay L k M) q = getW L q := by
  unfold getW
  congr 1
  apply List.ext_getElem?
  intro i
  by_cases hi : i < 8
  · rw [List.getElem?_take_of_lt hi, List.getElem?_take_of_lt hi, List.getElem?_drop, List.getElem?_drop]
    exact lay_out h _ (by omega)
  · rw [List.getElem?_eq_none (by rw [List.length_take]; omega), List.getElem?_eq_none (by rw [List.length_take]; omega)]
/-- All but a slot's bytes are as they were. -/
def OutS (L L' : List Int) (a n : Nat) : Prop := L'.length = L.length ∧ (∀ i, (i < a ∨ a + n ≤ i) → L'.getD i 0 = L.getD i 0) ∧ ∀ q, (q + 8 ≤ a ∨ a + n ≤ q) → getW L' q = getW L q
theorem out_lay {L M : List Int} {k a n : Nat} (h : k + M.length ≤ L.length) (ha : a ≤ k) (hn : k + M.length ≤ a + n) : OutS L (lay L k M) a n :=
  ⟨lay_length h, fun i hi => by rw [lay_get h, if_neg (by omega)], fun q hq => word_out h (by omega)⟩
theorem out_trans {L L1 L2 : List Int} {a n : Nat} (h : OutS L L1 a n) (h' : OutS L1 L2 a n) : OutS L L2 a n :=
  ⟨h'.1.trans h.1, fun i hi => (h'.2.1 i hi).trans (h.2.1 i hi), fun q hq => (h'.2.2 q hq).trans (h.2.2 q hq)⟩
theorem chain_out {L L' : List Int} {key : Int} {c : Int} (zn : ClsOf c Z N) {k : Nat} (ho : OutS L L' (bsN P Z k) Z) : ∀ {fl : List Nat}, k ∉ fl → ChainL L key P Z fl → ChainL L' key P Z fl
  | [], _, _ => trivial
  | j :: fl, hk, h => by
    have hj : j ≠ k := fun e => hk (by rw [e]; exact List.mem_cons_self ..)
    have q := cls_apart zn hj
    have z := cls_bd zn
    exact ⟨by rw [ho.2.2 _ (by unfold bsN; omega)]; exact h.1, chain_out zn ho (fun e => hk (List.mem_cons_of_mem _ e)) h.2⟩
theorem can_out {L L' : List Int} {c : Int} (zn : ClsOf c Z N) {j k : Nat} (hj : j ≠ k) (ho : OutS L L' (bsN P Z k) Z) : getW L' (bsN P Z j + (Z - 8)) = getW L (bsN P Z j + (Z - 8)) := by
  have q := cls_apart zn hj
  have z := cls_bd zn
  exact ho.2.2 _ (by unfold bsN; omega)
theorem gone_out {L L' : List Int} {c : Int} (zn : ClsOf c Z N) {j k : Nat} (hj : j ≠ k) (ho : OutS L L' (bsN P Z k) Z) {i : Nat} (hi : i < Z) : L'.getD (bsN P Z j + i) 0 = L.getD (bsN P Z j + i) 0 := by
  have q := cls_apart zn hj
  exact ho.2.1 _ (by unfold bsN; omega)
theorem getD_setB (l : List Bool) (k j : Nat) (x : Bool) (hk : k < l.length) : (l.set k x).getD j false = if j = k then x else l.getD j false := getD_set l k j x false hk
/-- The first free one is taken. -/
def takeM (m : SlM) (P Z k : Nat) (rest : List Nat) : SlM := { m with L := setW (fillL m.L ((bsN P Z k : Nat) : Int) ((Z - 8 : Nat) : Int) 0) ((bsN P Z k + (Z - 8) : Nat) : Int) (canI m.key ((bsN P Z k : Nat) : Int)), ll := m.ll.set k true, fst := hdI P Z rest }
theorem fill_in {L : List Int} {a n : Nat} (h : a + n ≤ L.length) (c : Int) : fillL L a n c = lay L a (List.replicate n c) := by
  unfold fillL
  rw [inE_ok h, if_pos rfl, Int.toNat_natCast, Int.toNat_natCast]
theorem setw_in {L : List Int} {a : Nat} (h : wordE L.length a = 0) (v : Int) : setW L a v = lay L a (putL 8 v) := by
  unfold setW
  rw [if_pos h, Int.toNat_natCast]
theorem word_fits {len a : Nat} (h : wordE len a = 0) : a + 8 ≤ len := by
  rcases wordE_cases len a with ⟨q, _⟩ | ⟨q, _⟩ | ⟨_, _, k, e, hk, _⟩
  · omega
  · omega
  · omega
theorem putL_len8 (v : Int) : (putL 8 v).length = 8 := by simp [putL]
theorem good_take {k : Nat} {rest : List Nat} (h : SGood m P Z N (k :: rest)) : SGood (takeM m P Z k rest) P Z N rest ∧ OutS m.L (takeM m P Z k rest).L (bsN P Z k) Z := by
  have hk : k < N := ((h.fr k).1 (List.mem_cons_self ..)).1
  obtain ⟨z1, z2, _, _, _⟩ := cls_bd h.zn
  have hin := good_in h hk
  obtain ⟨w1, w2⟩ := good_word h hk
  have e1 : fillL m.L ((bsN P Z k : Nat) : Int) ((Z - 8 : Nat) : Int) 0 = lay m.L (bsN P Z k) (List.replicate (Z - 8) 0) := fill_in (by omega) 0
  have l1 : (lay m.L (bsN P Z k) (List.replicate (Z - 8) 0)).length = m.L.length := lay_length (by simp; omega)
  have e2 : (takeM m P Z k rest).L = lay (lay m.L (bsN P Z k) (List.replicate (Z - 8) 0)) (bsN P Z k + (Z - 8)) (putL 8 (canI m.key ((bsN P Z k : Nat) : Int))) := by
    show setW (fillL m.L ((bsN P Z k : Nat) : Int) ((Z - 8 : Nat) : Int) 0) ((bsN P Z k + (Z - 8) : Nat) : Int) _ = _
    rw [e1, setw_in (by rw [l1]; exact w2)]
  have ho : OutS m.L (takeM m P Z k rest).L (bsN P Z k) Z := by
    rw [e2]
    exact out_trans (out_lay (M := List.replicate (Z - 8) 0) (by simp only [List.length_replicate]; omega) (Nat.le_refl _) (by simp only [List.length_replicate]; omega)) (out_lay (by rw [putL_len8, l1]; omega) (by omega) (by rw [putL_len8]; omega))
  have hnd := List.nodup_cons.1 h.nd
  have hll : k < m.ll.length := by rw [h.ll]; exact hk
  have hfk := (h.fr k).1 (List.mem_cons_self ..)
  refine ⟨⟨h.pg, h.pm, h.zn, by show (m.ll.set k true).length = N; rw [List.length_set]; exact h.ll, h.hl, by rw [ho.1]; exact h.fit, by rw [ho.1]; exact h.mx, hnd.2, fun j => ?_, fun j hj => ?_, chain_out h.zn ho hnd.1 h.ch.2, rfl, fun j hj hl => ?_, fun j hj hl i hi => ?_⟩, ho⟩
  · show j ∈ rest ↔ j < N ∧ (m.ll.set k true).getD j false = false ∧ m.hl.getD j false = false
    rw [getD_setB _ _ _ _ hll]
    by_cases e : j = k
    · subst e
      rw [if_pos rfl]
      exact ⟨fun q => absurd q hnd.1, fun q => by cases q.2.1⟩
    · rw [if_neg e, ← h.fr j, List.mem_cons]
      exact ⟨Or.inr, fun q => q.resolve_left e⟩
  · have hj' : (m.ll.set k true).getD j false = true := hj
    rw [getD_setB _ _ _ _ hll] at hj'
    show m.hl.getD j false = false
    by_cases e : j = k
    · rw [e]; exact hfk.2.2
    · rw [if_neg e] at hj'; exact h.two j hj'
  · have hl' : (m.ll.set k true).getD j false = true := hl
    rw [getD_setB _ _ _ _ hll] at hl'
    by_cases e : j = k
    · subst e
      rw [e2]
      exact getW_same (by rw [l1]; omega) (canI_bd _ _).1 (canI_bd _ _).2
    · rw [if_neg e] at hl'
      rw [can_out h.zn e ho]
      exact h.can j hj hl'
  · have hl' : m.hl.getD j false = true := hl
    have e : j ≠ k := fun e => by rw [e, hfk.2.2] at hl'; cases hl'
    rw [gone_out h.zn e ho hi]
    exact h.gone j hj hl' i hi
/-- A live one is dropped. -/
def dropM (m : SlM) (P Z k : Nat) : SlM := { m with L := fillL m.L ((bsN P Z k : Nat) : Int) (Z : Int) 221, ll := m.ll.set k false, hl := m.hl.set k true }
theorem good_drop (h : SGood m P Z N fl) {k : Nat} (hk : k < N) (hl : m.ll.getD k false = true) : SGood (dropM m P Z k) P Z N fl ∧ OutS m.L (dropM m P Z k).L (bsN P Z k) Z := by
  obtain ⟨z1, z2, _, _, _⟩ := cls_bd h.zn
  have hin := good_in h hk
  have e2 : (dropM m P Z k).L = lay m.L (bsN P Z k) (List.replicate Z 221) := fill_in hin 221
  have ho : OutS m.L (dropM m P Z k).L (bsN P Z k) Z := by
    rw [e2]; exact out_lay (by simp; omega) (Nat.le_refl _) (by simp)
  have hll : k < m.ll.length := by rw [h.ll]; exact hk
  have hhl : k < m.hl.length := by rw [h.hl]; exact hk
  have hnk : k ∉ fl := fun q => by have := (h.fr k).1 q; rw [hl] at this; cases this.2.1
  refine ⟨⟨h.pg, h.pm, h.zn, by show (m.ll.set k false).length = N; rw [List.length_set]; exact h.ll, by show (m.hl.set k true).length = N; rw [List.length_set]; exact h.hl, by rw [ho.1]; exact h.fit, by rw [ho.1]; exact h.mx, h.nd, fun j => ?_, fun j hj => ?_, chain_out h.zn ho hnk h.ch, h.fst, fun j hj hl2 => ?_, fun j hj hl2 i hi => ?_⟩, ho⟩
  · show j ∈ fl ↔ j < N ∧ (m.ll.set k false).getD j false = false ∧ (m.hl.set k true).getD j false = false
    rw [getD_setB _ _ _ _ hll, getD_setB _ _ _ _ hhl]
    by_cases e : j = k
    · subst e
      rw [if_pos rfl, if_pos rfl]
      exact ⟨fun q => absurd q hnk, fun q => by cases q.2.2⟩
    · rw [if_neg e, if_neg e]; exact h.fr j
  · have hj' : (m.ll.set k false).getD j false = true := hj
    show (m.hl.set k true).getD j false = false
    rw [getD_setB _ _ _ _ hll] at hj'
    rw [getD_setB _ _ _ _ hhl]
    by_cases e : j = k
    · rw [if_pos e] at hj'; cases hj'
    · rw [if_neg e] at hj' ⊢; exact h.two j hj'
  · have hl' : (m.ll.set k false).getD j false = true := hl2
    rw [getD_setB _ _ _ _ hll] at hl'
    have e : j ≠ k := fun e => by rw [if_pos e] at hl'; cases hl'
    rw [if_neg e] at hl'
    rw [can_out h.zn e ho]
    exact h.can j hj hl'
  · have hl' : (m.hl.set k true).getD j false = true := hl2
    rw [getD_setB _ _ _ _ hhl] at hl'
    by_cases e : j = k
    · subst e
      rw [e2, lay_get (by simp; omega), if_pos (by simp; omega)]
      rw [List.getD_eq_getElem?_getD, List.getElem?_replicate, if_pos (by omega)]; rfl
    · rw [if_neg e] at hl'
      rw [gone_out h.zn e ho hi]
      exact h.gone j hj hl' i hi
/-- A held one is given back. -/
def giveM (m : SlM) (P Z k : Nat) : SlM := { m with L := setW m.L ((bsN P Z k : Nat) : Int) (putI m.key ((bsN P Z k : Nat) : Int) m.fst), hl := m.hl.set k false, fst := ((bsN P Z k : Nat) : Int) }
theorem good_give (h : SGood m P Z N fl) {k : Nat} (hk : k < N) (hl0 : m.ll.getD k false = false) (hl : m.hl.getD k false = true) : SGood (giveM m P Z k) P Z N (k :: fl) ∧ OutS m.L (giveM m P Z k).L (bsN P Z k) Z := by
  obtain ⟨z1, z2, _, _, _⟩ := cls_bd h.zn
  have hin := good_in h hk
  obtain ⟨w1, w2⟩ := good_word h hk
  have e2 : (giveM m P Z k).L = lay m.L (bsN P Z k) (putL 8 (putI m.key ((bsN P Z k : Nat) : Int) m.fst)) := setw_in w1 _
  have ho : OutS m.L (giveM m P Z k).L (bsN P Z k) Z := by
    rw [e2]; exact out_lay (by rw [putL_len8]; omega) (Nat.le_refl _) (by rw [putL_len8]; omega)
  have hhl : k < m.hl.length := by rw [h.hl]; exact hk
  have hnk : k ∉ fl := fun q => by have := (h.fr k).1 q; rw [hl] at this; cases this.2.2
  refine ⟨⟨h.pg, h.pm, h.zn, h.ll, by show (m.hl.set k false).length = N; rw [List.length_set]; exact h.hl, by rw [ho.1]; exact h.fit, by rw [ho.1]; exact h.mx, List.nodup_cons.2 ⟨hnk, h.nd⟩, fun j => ?_, fun j hj => ?_, ⟨?_, chain_out h.zn ho hnk h.ch⟩, rfl, fun j hj hl2 => ?_, fun j hj hl2 i hi => ?_⟩, ho⟩
  · show j ∈ k :: fl ↔ j < N ∧ m.ll.getD j false = false ∧ (m.hl.set k false).getD j false = false
    rw [getD_setB _ _ _ _ hhl, List.mem_cons]
    by_cases e : j = k
    · subst e
      rw [if_pos rfl]
      exact ⟨fun _ => ⟨hk, hl0, rfl⟩, fun _ => Or.inl rfl⟩
    · rw [if_neg e, ← h.fr j]
      exact ⟨fun q => q.resolve_left e, Or.inr⟩
  · have hj' : m.ll.getD j false = true := hj
    show (m.hl.set k false).getD j false = false
    rw [getD_setB _ _ _ _ hhl]
    by_cases e : j = k
    · rw [if_pos e]
    · rw [if_neg e]; exact h.two j hj'
  · show getW (giveM m P Z k).L (bsN P Z k) = putI m.key ((bsN P Z k : Nat) : Int) (hdI P Z fl)
    rw [e2, ← h.fst]
    exact getW_same (by omega) (putI_bd _ _ _).1 (putI_bd _ _ _).2
  · have hl' : m.ll.getD j false = true := hl2
    have e : j ≠ k := fun e => by rw [e, hl0] at hl'; cases hl'
    rw [can_out h.zn e ho]
    exact h.can j hj hl'
  · have hl' : (m.hl.set k false).getD j false = true := hl2
    rw [getD_setB _ _ _ _ hhl] at hl'
    have e : j ≠ k := fun e => by rw [if_pos e] at hl'; cases hl'
    rw [if_neg e] at hl'
    rw [gone_out h.zn e ho hi]
    exact h.gone j hj hl' i hi
/-- How many slots are that. -/
def cntS (m : SlM) (s : Int) (n : Nat) : Nat := (List.range n).countP (fun (k : Nat) => decide (stI m (k : Int) = s))
theorem cntS_succ (m : SlM) (s : Int) (n : Nat) : cntS m s (n + 1) = cntS m s n + (if stI m n = s then 1 else 0) := by
  unfold cntS
  rw [List.range_succ, List.countP_append]
  congr 1
  by_cases q : stI m n = s
  · rw [if_pos q]; simp [q]
  · rw [if_neg q]; simp [q]
theorem good_count (h : SGood m P Z N fl) : cntS m 0 N = fl.length := by
  unfold cntS
  rw [List.countP_eq_length_filter]
  apply List.Perm.length_eq
  rw [List.perm_ext_iff_of_nodup ((List.nodup_range).sublist List.filter_sublist) h.nd]
  intro k
  rw [List.mem_filter, List.mem_range, decide_eq_true_eq, good_free h]
theorem good_stands (h : SGood m P Z N fl) {k : Nat} (hk : k < N) (hl : m.ll.getD k false = true) : standsB m k = true := by
  unfold standsB
  rw [good_room h hk, good_base h hk, decide_eq_true (good_word h hk).2, Bool.true_and, Int.toNat_natCast, decide_eq_true (h.can k hk hl)]
theorem good_load (h : SGood m P Z N fl) {k : Nat} (hk : k < N) (hl : m.hl.getD k false = true) : ∀ x ∈ loadL m.L ((bsN P Z k : Nat) : Int) (Z : Int), x = 221 := by
  intro x hx
  have hin := good_in h hk
  unfold loadL at hx
  rw [inE_ok hin, if_pos rfl, Int.toNat_natCast, Int.toNat_natCast] at hx
  obtain ⟨i, hi, rfl⟩ := List.getElem_of_mem hx
  have hi2 : i < Z := by rw [List.length_take] at hi; omega
  have z := h.gone k hk hl i hi2
  rw [List.getD_eq_getElem?_getD, List.getElem?_eq_getElem (by omega)] at z
  rw [List.getElem_take, List.getElem_drop]
  simpa using z
end Go.Proofs.Ytgbbnmjfkhconaa
