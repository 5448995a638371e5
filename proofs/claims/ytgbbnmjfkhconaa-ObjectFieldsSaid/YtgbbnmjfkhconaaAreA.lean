/- Layer 3's plain law: acts, one behind the other; what was set is undone. No conditions beside those stated. -/
import Derived.Test.YtgbbnmjfkhconaaAreL
namespace Go.Proofs.Ytgbbnmjfkhconaa
open Go.RowKit
set_option linter.unusedVariables false
set_option linter.unusedSimpArgs false
/-- An act: kind, place, number. -/
structure ActM where
  k : Int
  a : Int
  x : Int
def actE (L : List Int) (t : ActM) : Int := if t.k = 2 then (if t.x % 2 = 1 then 0 else 8) else wordE L.length t.a
def actL (L : List Int) (t : ActM) : List Int := if t.k = 1 then setW L t.a t.x else L
def stL (L : List Int) (A : List ActM) (n : Nat) : List Int := (A.take n).foldl actL L
theorem stL_zero (L : List Int) (A : List ActM) : stL L A 0 = L := rfl
theorem stL_succ (L : List Int) (A : List ActM) {n : Nat} (h : n < A.length) : stL L A (n + 1) = actL (stL L A n) A[n] := by
  unfold stL
  rw [List.take_add_one, List.getElem?_eq_getElem h, Option.toList_some, List.foldl_append]; rfl
theorem actL_length (L : List Int) (t : ActM) : (actL L t).length = L.length := by
  unfold actL; split
  · exact setW_length _ _ _
  · rfl
theorem foldl_length : ∀ (A : List ActM) (L : List Int), (A.foldl actL L).length = L.length
  | [], _ => rfl
  | t :: l, L => by rw [List.foldl_cons, foldl_length l, actL_length]
theorem stL_length (L : List Int) (A : List ActM) (n : Nat) : (stL L A n).length = L.length := foldl_length _ _
theorem setW_bytes {L : List Int} (h : IsBytes L) (a v : Int) : IsBytes (setW L a v) := by
  unfold setW; split
  · exact isBytes_lay h (isBytes_putL _ _) _
  · exact h
theorem actL_bytes {L : List Int} (h : IsBytes L) (t : ActM) : IsBytes (actL L t) := by
  unfold actL; split
  · exact setW_bytes h _ _
  · exact h
/-- So many acts were right, and what ended them. -/
def DoneAt (L : List Int) (A : List ActM) (n : Nat) (e : Int) : Prop :=
  n ≤ A.length ∧ (∀ j, j < n → ∀ t, A[j]? = some t → actE (stL L A j) t = 0) ∧ ((n = A.length ∧ e = 0) ∨ ∃ t, A[n]? = some t ∧ actE (stL L A n) t = e ∧ e ≠ 0)
theorem done_lt {L : List Int} {A : List ActM} {n n' : Nat} {e e' : Int} (h : DoneAt L A n e) (h' : DoneAt L A n' e') : ¬ n < n' := fun q => by
  obtain ⟨h1, h2, h3⟩ := h
  obtain ⟨g1, g2, g3⟩ := h'
  rcases h3 with ⟨r, _⟩ | ⟨t, r1, r2, r3⟩
  · omega
  · have := g2 n q t r1
    rw [r2] at this; exact r3 this
theorem done_eq {L : List Int} {A : List ActM} {n n' : Nat} {e e' : Int} (h : DoneAt L A n e) (h' : DoneAt L A n' e') : n = n' ∧ e = e' := by
  have hn : n = n' := by have := done_lt h h'; have := done_lt h' h; omega
  subst hn
  refine ⟨rfl, ?_⟩
  rcases h.2.2 with ⟨r, e1⟩ | ⟨t, r1, r2, r3⟩
  · rcases h'.2.2 with ⟨s, e2⟩ | ⟨t', s1, s2, s3⟩
    · rw [e1, e2]
    · rw [r, List.getElem?_eq_none (Nat.le_refl _)] at s1; cases s1
  · rcases h'.2.2 with ⟨s, e2⟩ | ⟨t', s1, s2, s3⟩
    · rw [s, List.getElem?_eq_none (Nat.le_refl _)] at r1; cases r1
    · rw [r1] at s1; cases s1; rw [← r2, s2]
theorem done_all {L : List Int} {A : List ActM} {n : Nat} (h : DoneAt L A n 0) : n = A.length := by
  rcases h.2.2 with ⟨r, _⟩ | ⟨t, _, _, r⟩
  · exact r
  · exact absurd rfl r
/-- The numbers that Get told. -/
def toldL (L : List Int) (A : List ActM) : Nat → List Int
  | 0 => []
  | n + 1 => toldL L A n ++ (match A[n]? with | some t => if t.k = 0 then [getW (stL L A n) t.a.toNat] else [] | none => [])
theorem toldL_len (L : List Int) (A : List ActM) : ∀ n, (toldL L A n).length ≤ n
  | 0 => Nat.le_refl _
  | n + 1 => by
    have := toldL_len L A n
    unfold toldL
    rw [List.length_append]
    cases A[n]? with
    | none => simp; omega
    | some t => simp only; split <;> simp <;> omega
theorem toldL_yes {L : List Int} {A : List ActM} {n : Nat} (h : n < A.length) (hk : A[n].k = 0) : toldL L A (n + 1) = toldL L A n ++ [getW (stL L A n) A[n].a.toNat] := by
  show toldL L A n ++ _ = _
  rw [List.getElem?_eq_getElem h]; simp only [hk, if_true]
theorem toldL_no {L : List Int} {A : List ActM} {n : Nat} (h : n < A.length) (hk : A[n].k ≠ 0) : toldL L A (n + 1) = toldL L A n := by
  show toldL L A n ++ _ = _
  rw [List.getElem?_eq_getElem h]; simp only [hk, if_false, List.append_nil]
/-- Undone, from the last one on. -/
def undoL : Nat → List Int → List Int → List Int → List Int
  | 0, _, _, L => L
  | m + 1, O, W, L => undoL m O W (setW L (W.getD m 0) (O.getD m 0))
theorem undoL_pre (X Y : List Int) : ∀ (m : Nat) (O W L : List Int), m ≤ O.length → m ≤ W.length → undoL m (O ++ X) (W ++ Y) L = undoL m O W L
  | 0, _, _, _, _, _ => rfl
  | m + 1, O, W, L, h1, h2 => by
    have e1 : (O ++ X).getD m 0 = O.getD m 0 := by rw [List.getD_eq_getElem?_getD, List.getD_eq_getElem?_getD, List.getElem?_append_left (by omega)]
    have e2 : (W ++ Y).getD m 0 = W.getD m 0 := by rw [List.getD_eq_getElem?_getD, List.getD_eq_getElem?_getD, List.getElem?_append_left (by omega)]
    unfold undoL
    rw [e1, e2]
    exact undoL_pre X Y m O W _ (by omega) (by omega)
theorem byteAt_getL : ∀ (xs : List Int), IsBytes xs → ∀ k, k < xs.length → byteAt (getL xs) k = xs.getD k 0
  | b :: l, h, 0, _ => by
    have hb := h b (List.mem_cons_self ..)
    show (b + 256 * getL l) / 256 ^ 0 % 256 = b
    rw [Int.pow_zero, Int.ediv_one]; omega
  | b :: l, h, k + 1, hk => by
    have hb := h b (List.mem_cons_self ..)
    have ih := byteAt_getL l (fun y hy => h y (List.mem_cons_of_mem _ hy)) k (by simpa using hk)
    show (b + 256 * getL l) / 256 ^ (k + 1) % 256 = l.getD k 0
    rw [← ih]
    unfold byteAt
    rw [Int.pow_succ, Int.mul_comm (256 ^ k) 256, ← Int.ediv_ediv_of_nonneg (by decide), show (b + 256 * getL l) / 256 = getL l by omega]
theorem putL_getL {xs : List Int} (h : IsBytes xs) : putL xs.length (getL xs) = xs := by
  apply List.ext_getElem (putL_length _ _)
  intro i h1 h2
  have e1 := putL_getD xs.length (getL xs) i h2
  rw [byteAt_getL xs h i h2, List.getD_eq_getElem?_getD, List.getD_eq_getElem?_getD, List.getElem?_eq_getElem h1, List.getElem?_eq_getElem h2] at e1
  exact e1
theorem lay_lay {α : Type} {L M N : List α} {k : Nat} (h : k + M.length ≤ L.length) (hl : N.length = M.length) : lay (lay L k M) k N = lay L k N := by
  have hk : (L.take k).length = k := by rw [List.length_take]; omega
  unfold lay
  have e1 : (L.take k ++ M ++ L.drop (k + M.length)).take k = L.take k := by
    rw [List.append_assoc, List.take_append_of_le_length (by omega), List.take_of_length_le (by omega)]
  have e2 : (L.take k ++ M ++ L.drop (k + M.length)).drop (k + N.length) = L.drop (k + N.length) := by
    rw [hl]
    have e3 : (L.take k ++ M).length = k + M.length := by rw [List.length_append, hk]
    rw [← e3, List.drop_left]
  rw [e1, e2]
theorem lay_self {α : Type} {L : List α} {k n : Nat} (h : k + n ≤ L.length) : lay L k ((L.drop k).take n) = L := by
  unfold lay
  have e : ((L.drop k).take n).length = n := by simp; omega
  rw [e, List.append_assoc]
  have e2 : (L.drop k).take n ++ L.drop (k + n) = L.drop k := by
    rw [← List.drop_drop]; exact List.take_append_drop n (L.drop k)
  rw [e2, List.take_append_drop]
theorem getW_lt {L : List Int} (h : IsBytes L) (k : Nat) : 0 ≤ getW L k ∧ getW L k < 18446744073709551616 := by
  have hb : IsBytes ((L.drop k).take 8) := isBytes_take (isBytes_drop h k) 8
  obtain ⟨h1, h2⟩ := getL_lt _ hb
  refine ⟨h1, Int.lt_of_lt_of_le h2 (pow256_le8 ?_)⟩
  rw [List.length_take]; omega
theorem setW_ok {L : List Int} {a x : Int} (h : wordE L.length a = 0) : setW L a x = lay L a.toNat (putL 8 x) := by unfold setW; rw [if_pos h]
theorem setW_back {L : List Int} (hb : IsBytes L) {a x : Int} (h : wordE L.length a = 0) : setW (setW L a x) a (getW L a.toNat) = L := by
  have hl := setW_length L a x
  rcases wordE_cases L.length a with ⟨q, _⟩ | ⟨q, _⟩ | ⟨_, _, k, rfl, hk, _⟩
  · omega
  · omega
  have e1 : setW L (k : Int) x = lay L k (putL 8 x) := by unfold setW; rw [if_pos h, Int.toNat_natCast]
  have e2 : setW (setW L (k : Int) x) (k : Int) (getW L k) = lay (setW L (k : Int) x) k (putL 8 (getW L k)) := by
    rw [setW_ok (by rw [hl]; exact h), Int.toNat_natCast]
  rw [Int.toNat_natCast, e2, e1, lay_lay (by rw [putL_length]; exact hk) (by rw [putL_length, putL_length])]
  have e3 : putL 8 (getW L k) = (L.drop k).take 8 := by
    have e4 : ((L.drop k).take 8).length = 8 := by simp; omega
    have := putL_getL (xs := (L.drop k).take 8) (isBytes_take (isBytes_drop hb k) 8)
    rw [e4] at this; exact this
  rw [e3]
  exact lay_self hk
/-- A log of what was set leads back. -/
structure LogAt (L M O W : List Int) : Prop where
  len : O.length = W.length
  back : undoL O.length O W M = L
  num : ∀ x ∈ O, 0 ≤ x ∧ x < 18446744073709551616
theorem log_nil (L : List Int) : LogAt L L [] [] := ⟨rfl, rfl, fun x h => by cases h⟩
theorem log_set {L M O W : List Int} (h : LogAt L M O W) (hb : IsBytes M) {a x : Int} (ha : wordE M.length a = 0) : LogAt L (setW M a x) (O ++ [getW M a.toNat]) (W ++ [a]) := by
  refine ⟨by simp [h.len], ?_, fun y hy => ?_⟩
  · rw [List.length_append]
    show undoL O.length (O ++ _) (W ++ _) (setW (setW M a x) _ _) = L
    have e1 : (W ++ [a]).getD O.length 0 = a := by rw [h.len, List.getD_eq_getElem?_getD]; simp
    have e2 : (O ++ [getW M a.toNat]).getD O.length 0 = getW M a.toNat := by rw [List.getD_eq_getElem?_getD]; simp
    rw [e1, e2, setW_back hb ha, undoL_pre _ _ _ _ _ _ (Nat.le_refl _) (by rw [h.len]; exact Nat.le_refl _)]
    exact h.back
  · rcases List.mem_append.1 hy with q | q
    · exact h.num y q
    · rw [List.mem_singleton.1 q]; exact getW_lt hb _
theorem undoL_length : ∀ (m : Nat) (O W L : List Int), (undoL m O W L).length = L.length
  | 0, _, _, _ => rfl
  | m + 1, O, W, L => by unfold undoL; rw [undoL_length m, setW_length]
end Go.Proofs.Ytgbbnmjfkhconaa
