/- Layer 24, plain: the bytes of an instruction that may be are read as it was, whatever stands behind them. No conditions beside those stated. -/
import Derived.Test.YtedmjlhgpdeafaaDoorInstrRRead
namespace Go.Proofs.YtedmjlhgpdeafaaDoor
open Go.RowKit
set_option linter.unusedVariables false
set_option linter.unusedSimpArgs false
theorem getL_putL : ∀ (n : Nat) (v : Int), 0 ≤ v → getL (putL n v) = v % 256 ^ n
  | 0, v, _ => by
    show (0 : Int) = v % 256 ^ 0
    rw [Int.pow_zero, Int.emod_one]
  | n + 1, v, hv => by
    rw [putL_snoc, getL_snoc, getL_putL n v hv, putL_length]
    unfold byteAt
    obtain ⟨V, rfl⟩ := Int.eq_ofNat_of_zero_le hv
    have p : (256 : Int) ^ n = ((256 ^ n : Nat) : Int) := by rw [Int.natCast_pow]; rfl
    have p2 : (256 : Int) ^ (n + 1) = ((256 ^ (n + 1) : Nat) : Int) := by rw [Int.natCast_pow]; rfl
    rw [p, p2, ← Int.natCast_ediv, ← Int.natCast_emod]
    rw [show (256 : Int) = ((256 : Nat) : Int) from rfl, ← Int.natCast_emod, ← Int.natCast_mul, ← Int.natCast_add, ← Int.natCast_emod]
    rw [Nat.pow_succ, Nat.mod_mul, Nat.mul_comm (256 ^ n)]
theorem isBytes_nil : IsBytes [] := fun x hx => by cases hx
theorem isBytes_append {xs ys : List Int} (h : IsBytes xs) (h' : IsBytes ys) : IsBytes (xs ++ ys) := fun x hx => by
  rcases List.mem_append.1 hx with q | q
  · exact h x q
  · exact h' x q
theorem isBytes_putL (n : Nat) (v : Int) : IsBytes (putL n v) := fun x hx => by
  unfold putL at hx
  obtain ⟨k, _, rfl⟩ := List.mem_map.1 hx
  unfold byteAt
  omega
theorem isBytes_bytesI (op x a b : Int) : IsBytes (bytesI op x a b) := by
  have h1 : IsBytes [op % 256] := fun y hy => by
    rcases List.mem_cons.1 hy with rfl | q
    · omega
    · cases q
  have h2 : ∀ (c : Prop) [Decidable c] n v, IsBytes (if c then putL n v else []) := fun c _ n v => by
    split
    · exact isBytes_putL _ _
    · exact isBytes_nil
  unfold bytesI
  exact isBytes_append (isBytes_append (isBytes_append h1 (h2 _ _ _)) (h2 _ _ _)) (h2 _ _ _)
theorem cutL_mid (A P R : List Int) : cutL (A ++ (P ++ R)) A.length (A.length + P.length) = P := by
  unfold cutL
  rw [List.drop_left, Nat.add_sub_cancel_left, List.take_left]
theorem ok_in {op : Int} (h : shOk op = true) : 0 ≤ op ∧ op < 37 := by
  rcases (show (op < 0 ∨ 37 ≤ op) ∨ (0 ≤ op ∧ op < 37) by omega) with q | q
  · unfold shOk kindOf at h; rw [if_pos q] at h; cases h
  · exact q
theorem may_parts {op x a b : Int} (h : mayB op x a b = true) : shOk op = true ∧ (shX op = true ∨ x = 0) ∧ smallB a (decide (0 < shN op)) = true ∧ smallB b (decide (1 < shN op)) = true := by
  unfold mayB at h
  simp only [Bool.and_eq_true, Bool.or_eq_true, decide_eq_true_iff] at h
  exact ⟨h.1.1.1, h.1.1.2, h.1.2, h.2⟩
theorem small_no {a : Int} (h : smallB a false = true) : a = 0 := by
  unfold smallB at h; simpa using h
theorem word8 {x : Int} (h : 0 ≤ x) (h2 : x < 18446744073709551616) : getL ((putL 8 x).take 8) = x := by
  rw [List.take_of_length_le (by rw [putL_length]; exact Nat.le_refl _), getL_putL 8 x h]
  exact Int.emod_eq_of_lt h h2
theorem word2 {x : Int} (h : 0 ≤ x) (h2 : x ≤ 65535) : getL ((putL 2 x).take 8) = x := by
  rw [List.take_of_length_le (by rw [putL_length]; decide), getL_putL 2 x h]
  exact Int.emod_eq_of_lt h (by show x < 65536; omega)
theorem szR_pos2 (op : Int) : 0 < szR op := by unfold szR; omega
theorem bytesI_sz (op x a b : Int) : (bytesI op x a b).length = szR op := by
  rw [bytesI_length]; unfold szR
  rcases kinds op with ⟨_, k2, k3⟩ | ⟨_, k2, k3⟩ | ⟨_, k2, k3⟩ | ⟨_, k2, k3⟩ | ⟨_, k2, k3⟩ <;> rw [k2, k3] <;> rfl
theorem bytes_back {op x a b : Int} (h : mayB op x a b = true) (hx : 0 ≤ x) (hx2 : x < 18446744073709551616) (R : List Int) :
    okR (bytesI op x a b ++ R) = true ∧ opR (bytesI op x a b ++ R) = op ∧ xR (bytesI op x a b ++ R) = x ∧ aR (bytesI op x a b ++ R) = a ∧ bR (bytesI op x a b ++ R) = b := by
  obtain ⟨m1, m2, m3, m4⟩ := may_parts h
  obtain ⟨o1, o2⟩ := ok_in m1
  obtain ⟨⟨a1, a2⟩, b1, b2⟩ := may_arg h
  have hm : op % 256 = op := by omega
  have hop : opR (bytesI op x a b ++ R) = op := by
    unfold opR bytesI
    simp only [List.append_assoc, List.cons_append, List.getD_cons_zero]
    exact hm
  have hok : okR (bytesI op x a b ++ R) = true := by
    unfold okR
    rw [hop, m1]
    simp only [List.length_append, bytesI_sz, Bool.and_true, Bool.and_eq_true, decide_eq_true_iff]
    have : 0 < szR op := by unfold szR; omega
    omega
  refine ⟨hok, hop, ?_⟩
  unfold xR aR bR
  rw [hop]
  rcases kinds op with ⟨k1, k2, k3⟩ | ⟨k1, k2, k3⟩ | ⟨k1, k2, k3⟩ | ⟨k1, k2, k3⟩ | ⟨k1, k2, k3⟩
  · rw [m1] at k1; cases k1
  · rw [k2] at m3 m4 ⊢
    rw [k3] at m2 ⊢
    have e1 := small_no m3
    have e2 := small_no m4
    rcases m2 with q | q
    · cases q
    · exact ⟨by rw [q]; rfl, by rw [e1]; rfl, by rw [e2]; rfl⟩
  · have hb : bytesI op x a b = [op % 256] ++ putL 8 x := by unfold bytesI; rw [k2, k3]; simp
    rw [k2] at m3 m4 ⊢
    rw [k3, hb, List.append_assoc]
    have e1 := small_no m3
    have e2 := small_no m4
    have c := cutL_mid [op % 256] (putL 8 x) R
    rw [putL_length] at c
    refine ⟨?_, by rw [e1]; rfl, by rw [e2]; rfl⟩
    rw [if_pos rfl]
    rw [show cutL ([op % 256] ++ (putL 8 x ++ R)) 1 9 = putL 8 x from c]
    exact word8 hx hx2
  · have hb : bytesI op x a b = [op % 256] ++ putL 2 a := by unfold bytesI; rw [k2, k3]; simp
    rw [k2] at m3 m4 ⊢
    rw [k3] at m2 ⊢
    rw [hb, List.append_assoc]
    have e2 := small_no m4
    have c := cutL_mid [op % 256] (putL 2 a) R
    rw [putL_length] at c
    rcases m2 with q | q
    · cases q
    · refine ⟨by rw [q]; rfl, ?_, by rw [e2]; rfl⟩
      rw [if_pos (by decide), show cutL ([op % 256] ++ (putL 2 a ++ R)) 1 3 = putL 2 a from c]
      exact word2 a1 a2
  · have hb : bytesI op x a b = [op % 256] ++ (putL 2 a ++ putL 2 b) := by unfold bytesI; rw [k2, k3]; simp
    rw [k2] at m3 m4 ⊢
    rw [k3] at m2 ⊢
    rw [hb]
    have c := cutL_mid [op % 256] (putL 2 a) (putL 2 b ++ R)
    have c2 := cutL_mid ([op % 256] ++ putL 2 a) (putL 2 b) R
    rw [putL_length] at c c2
    rw [List.length_append, putL_length] at c2
    have s1 : [op % 256] ++ (putL 2 a ++ putL 2 b) ++ R = [op % 256] ++ (putL 2 a ++ (putL 2 b ++ R)) := by simp
    have s2 : [op % 256] ++ putL 2 a ++ (putL 2 b ++ R) = [op % 256] ++ (putL 2 a ++ (putL 2 b ++ R)) := by simp
    rw [s2] at c2
    rw [s1]
    rcases m2 with q | q
    · cases q
    · refine ⟨by rw [q]; rfl, ?_, ?_⟩
      · rw [if_pos (by decide), show cutL ([op % 256] ++ (putL 2 a ++ (putL 2 b ++ R))) 1 3 = putL 2 a from c]
        exact word2 a1 a2
      · rw [if_pos (by decide), show cutL ([op % 256] ++ (putL 2 a ++ (putL 2 b ++ R))) 3 5 = putL 2 b from c2]
        exact word2 b1 b2
end Go.Proofs.YtedmjlhgpdeafaaDoor
