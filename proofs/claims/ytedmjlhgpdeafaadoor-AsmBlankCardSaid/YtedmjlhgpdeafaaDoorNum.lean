/- Numbers as bytes: num.Put, num.Get and the document's own. Conditions: those stated. -/
import Derived.Test.YtedmjlhgpdeafaaDoorBytes
import Derived.OwnWalk
import Derived.Deep.QuietTactic
import Derived.BigQuiet
import Derived.StillTailTactics
namespace Go.Proofs.YtedmjlhgpdeafaaDoor
open Go.RowKit
set_option linter.unusedVariables false
set_option linter.unusedSimpArgs false
theorem madeCells_byts (n : Nat) : (madeCells #[Value.int .u8 0] n).toList = byts (List.replicate n 0) := by
  rw [toList_madeCells_one]; unfold byts; simp
theorem ownB_set {w : World} {B g cap n : Nat} {xs : List Int} (h : OwnB w B (.slice (some ⟨g, 0, none⟩) n cap) xs) (hn : n = xs.length) (i : Nat) (x : Int) : OwnB (w.setCell ⟨g, i, none⟩ (.int .u8 x)) B (.slice (some ⟨g, 0, none⟩) n cap) (xs.set i x) := by
  subst hn
  have := World.ownsRow.stored h i (.int .u8 x)
  unfold OwnB
  rw [List.length_set]
  have e : byts (xs.set i x) = (byts xs).set i (.int .u8 x) := by unfold byts; rw [List.map_set]
  rw [e]; exact this.1
theorem ownB_at {w : World} {B g cap n : Nat} {xs : List Int} (h : OwnB w B (.slice (some ⟨g, 0, none⟩) n cap) xs) (hn : n = xs.length) (i : Nat) (hi : i < n) : w.cell? ⟨g, i, none⟩ = some (.int .u8 (xs.getD i 0)) ∧ w.frozen? ⟨g, i, none⟩ = false := by
  subst hn
  refine ⟨?_, World.ownsRow.frozenAt h i⟩
  have := World.ownsRow.cellAt h i (by omega)
  rw [this]
  unfold byts
  simp [List.getD_eq_getElem?_getD, hi]
def byteAt (v : Int) (k : Nat) : Int := v / 256 ^ k % 256
def putL (n : Nat) (v : Int) : List Int := (List.range n).map (byteAt v)
theorem putL_length (n : Nat) (v : Int) : (putL n v).length = n := by unfold putL; simp
theorem putL_getD (n : Nat) (v : Int) (k : Nat) (h : k < n) : (putL n v).getD k 0 = byteAt v k := by
  unfold putL; simp [List.getD_eq_getElem?_getD, h]
theorem putL_snoc (n : Nat) (v : Int) : putL (n+1) v = putL n v ++ [byteAt v n] := by unfold putL; rw [List.range_succ]; simp
theorem byteAt_def (v : Int) (k : Nat) : v / 256 ^ k % 256 = byteAt v k := rfl
def getL : List Int → Int
  | [] => 0
  | b :: l => b + 256 * getL l
def IsBytes (xs : List Int) : Prop := ∀ x ∈ xs, 0 ≤ x ∧ x < 256
theorem run_shr8 {P : Program} (v : Int) (k : Nat) (hk : k < 8) (W : World) : (Op.shift .shr .u64 v .i64 (wrap64 (8 * (k : Int)))).run P W = .ok (.int .u64 (v / 256 ^ k)) W := by
  have e : wrap64 (8 * (k : Int)) = ((8 * k : Nat) : Int) := by rw [IntWalk.wrap64_in _ (by omega)]; omega
  rw [e]
  unfold Op.shift
  rw [if_neg (by omega)]
  have e2 : min (((8 * k : Nat) : Int).toNat) IntKind.u64.bits = 8 * k := by
    rw [Int.toNat_natCast]; exact Nat.min_eq_left (by show 8 * k ≤ 64; omega)
  rw [e2]
  have e3 : v.fdiv (2 ^ (8 * k)) = v / 256 ^ k := by
    rw [Int.pow_mul, Int.fdiv_eq_ediv_of_nonneg _ (Int.pow_nonneg (by decide))]; rfl
  show Sem.run P (pure (Value.int .u64 (v.fdiv (2 ^ (8 * k))))) W = _
  rw [e3]; rfl
theorem put_step (n k : Nat) (v : Int) (h : k < n) : (putL k v ++ List.replicate (n - k) 0).set k (byteAt v k) = putL (k + 1) v ++ List.replicate (n - (k + 1)) 0 := by
  rw [List.set_append_right _ _ (by rw [putL_length]; exact Nat.le_refl _), putL_length, Nat.sub_self, show n - k = (n - (k + 1)) + 1 by omega, List.replicate_succ, List.set_cons_zero, putL_snoc, List.append_assoc]
  rfl
theorem pow256_le {k : Nat} (h : k ≤ 7) : (256 : Int) ^ k ≤ 256 ^ 7 := by
  have e := Int.ofNat_le.2 (Nat.pow_le_pow_right (show 0 < 256 by decide) h)
  rw [Int.natCast_pow, Int.natCast_pow] at e
  exact e
theorem shl_form (b : Int) (k : Nat) (hb : 0 ≤ b) (hb2 : b < 256) (hk : k < 8) : IntKind.u64.wrap (b * 2 ^ (8 * k)) = b * 256 ^ k := by
  rw [Int.pow_mul, IntWalk.u64_in]; rfl
  have h1 : (256 : Int) ^ k ≤ 256 ^ 7 := pow256_le (by omega)
  have h2 : (0 : Int) < 256 ^ k := Int.pow_pos (by decide)
  have h3 : b * 256 ^ k ≤ 255 * 256 ^ 7 := Int.mul_le_mul (by omega) h1 (by omega) (by decide)
  have h4 : 0 ≤ b * 256 ^ k := Int.mul_nonneg hb (by omega)
  exact ⟨h4, Int.le_trans h3 (by decide)⟩
theorem run_shl8 {P : Program} (b : Int) (k : Nat) (hb : 0 ≤ b) (hb2 : b < 256) (hk : k < 8) (W : World) : (Op.shift .shl .u64 b .i64 (wrap64 (8 * (k : Int)))).run P W = .ok (.int .u64 (b * 256 ^ k)) W := by
  have e : wrap64 (8 * (k : Int)) = ((8 * k : Nat) : Int) := by rw [IntWalk.wrap64_in _ (by omega)]; omega
  rw [e]
  unfold Op.shift
  rw [if_neg (by omega)]
  have e2 : min (((8 * k : Nat) : Int).toNat) IntKind.u64.bits = 8 * k := by
    rw [Int.toNat_natCast]; exact Nat.min_eq_left (by show 8 * k ≤ 64; omega)
  rw [e2]
  have e3 : IntKind.u64.wrap (b * 2 ^ (8 * k)) = b * 256 ^ k := shl_form b k hb hb2 hk
  show Sem.run P (pure (Value.int .u64 (IntKind.u64.wrap (b * 2 ^ (8 * k))))) W = _
  rw [e3]; rfl
theorem getL_lt : ∀ xs : List Int, IsBytes xs → 0 ≤ getL xs ∧ getL xs < 256 ^ xs.length
  | [], _ => by simp [getL]
  | x :: l, h => by
    obtain ⟨h1, h2⟩ := getL_lt l (fun y hy => h y (List.mem_cons_of_mem _ hy))
    obtain ⟨h3, h4⟩ := h x (List.mem_cons_self ..)
    rw [getL, List.length_cons, Int.pow_succ]
    omega
theorem getL_snoc : ∀ (xs : List Int) (b : Int), getL (xs ++ [b]) = getL xs + b * 256 ^ xs.length
  | [], b => by simp [getL]
  | x :: l, b => by
    rw [List.cons_append, getL, getL_snoc l b, getL, List.length_cons, Int.pow_succ, Int.mul_add, ← Int.add_assoc]
    congr 1
    rw [Int.mul_comm (256 ^ l.length), Int.mul_left_comm]
theorem or_shl (a b : Int) (k : Nat) (h1 : 0 ≤ a) (h2 : a < 256 ^ k) (h3 : 0 ≤ b) (h4 : b < 256) (hk : k < 8) : bits .or .u64 a (b * 256 ^ k) = a + b * 256 ^ k := by
  obtain ⟨A, rfl⟩ := Int.eq_ofNat_of_zero_le h1
  obtain ⟨B, rfl⟩ := Int.eq_ofNat_of_zero_le h3
  have p : ((2 ^ (8 * k) : Nat) : Int) = 256 ^ k := by rw [Nat.pow_mul, Int.natCast_pow]; rfl
  have hA : A < 2 ^ (8 * k) := by rw [← p] at h2; exact Int.ofNat_lt.1 h2
  have h5 : 2 ^ (8 * k) ≤ 2 ^ 56 := Nat.pow_le_pow_right (by decide) (by omega)
  have hB : B * 2 ^ (8 * k) < 18446744073709551616 :=
    Nat.lt_of_le_of_lt (Nat.mul_le_mul (show B ≤ 255 by omega) h5) (by decide)
  have hA2 : A < 18446744073709551616 := Nat.lt_of_lt_of_le hA (Nat.le_trans h5 (by decide))
  rw [← p, ← Int.natCast_mul, u64_or_nat _ _ hA2 hB]
  rw [Nat.or_comm, ← Nat.shiftLeft_eq, ← Nat.shiftLeft_add_eq_or_of_lt hA, Nat.add_comm]
  rfl
theorem take_min (xs : List Int) (M : Nat) (h : M = min xs.length 8) : xs.take 8 = xs.take M := by
  rcases Nat.lt_or_ge xs.length 8 with q | q
  · rw [h, Nat.min_eq_left (by omega), List.take_length, List.take_of_length_le (by omega)]
  · rw [h, Nat.min_eq_right q]
theorem take_succ_getD (xs : List Int) (k : Nat) (h : k < xs.length) : xs.take (k + 1) = xs.take k ++ [xs.getD k 0] := by
  rw [List.take_add_one, List.getD_eq_getElem?_getD, List.getElem?_eq_getElem h]; rfl
theorem get_step (xs : List Int) (k : Nat) (h : k < xs.length) : getL (xs.take (k + 1)) = getL (xs.take k) + xs.getD k 0 * 256 ^ k := by
  rw [take_succ_getD xs k h, getL_snoc, List.length_take, Nat.min_eq_left (by omega)]
theorem isBytes_take {xs : List Int} (h : IsBytes xs) (k : Nat) : IsBytes (xs.take k) := fun x hx => h x (List.mem_of_mem_take hx)
theorem isBytes_at {xs : List Int} (h : IsBytes xs) (k : Nat) (hk : k < xs.length) : 0 ≤ xs.getD k 0 ∧ xs.getD k 0 < 256 := by
  rw [List.getD_eq_getElem?_getD, List.getElem?_eq_getElem hk]
  exact h _ (List.getElem_mem hk)
theorem put_facts (v : Int) (k : Nat) (hv : 0 ≤ v) (hv2 : v < 18446744073709551616) : (v / 256 ^ k).tmod 256 = byteAt v k ∧ (v / 256 ^ k).tdiv 256 = v / 256 ^ (k + 1) ∧ byteAt v k % 256 = byteAt v k := by
  have h0 : 0 ≤ v / 256 ^ k := Int.ediv_nonneg hv (Int.pow_nonneg (by decide))
  refine ⟨?_, ?_, ?_⟩
  · rw [Int.tmod_eq_emod_of_nonneg h0]; rfl
  · rw [Int.tdiv_eq_ediv_of_nonneg h0, Int.pow_succ, Int.ediv_ediv_of_nonneg (Int.pow_nonneg (by decide))]
  · unfold byteAt; rw [Int.emod_emod]
theorem rnput_any (n : Nat) (v : Int) (w : World) (h8 : n ≤ 8) (hv : 0 ≤ v) (hv2 : v < 18446744073709551616) :
    Calls Tryd.prog 87 #[.int .i64 (n : Int), .int .u64 v] w (RetOwnB w (putL n v)) := by
  obtain ⟨N, hN⟩ : ∃ N : Int, N = (n : Int) := ⟨_, rfl⟩
  have a8 : decide (N ≤ 8) = true := by rw [decide_eq_true_iff]; omega
  rw [← hN]
  have H8 := Lib.hid h8; have HN := Lib.hid hN; have HV := Lib.hid hv; have HV2 := Lib.hid hv2; clear h8 hN hv hv2
  go_enter Tryd.func87, Tryd.ntmps87
  go_wp2_with fail
  go_loopw [1, 5, 6] (fun u s i wr => ∃ k : Nat, k ≤ n ∧ u = .int .u64 (v / 256 ^ k) ∧ i = .int .i64 k ∧ OwnB wr w.heap.size s (putL k v) ∧ Below w.heap.size w wr) (fun _ _ i _ => n - (intOf i).toNat)
  case atStart => exact ⟨0, by omega, by rw [Int.pow_zero, Int.ediv_one], rfl, ownB_nil _ _, Below.refl _ _⟩
  case round =>
    obtain ⟨k, hk, rfl, rfl, hown, hb⟩ := hrel
    by_cases hlk : k < n
    · have k1 : decide ((k : Int) < N) = true := by rw [decide_eq_true_iff, HN.out]; omega
      obtain ⟨hq0, hq1, hq2⟩ := put_facts v k HV.out HV2.out
      have hst := putL_snoc k v
      obtain ⟨q, hq⟩ : ∃ q, q = v / 256 ^ k := ⟨_, rfl⟩
      obtain ⟨y, hy⟩ : ∃ y, y = byteAt v k := ⟨_, rfl⟩
      obtain ⟨q2, hqq⟩ : ∃ q2, q2 = v / 256 ^ (k + 1) := ⟨_, rfl⟩
      rw [← hq, ← hy] at hq0
      rw [← hq, ← hqq] at hq1
      rw [← hy] at hq2 hst
      rw [← hq]
      have HQ := Lib.hid hq; have HY := Lib.hid hy; have HQQ := Lib.hid hqq; have HST := Lib.hid hst; clear hq hy hqq hst
      go_wp2_with (at_builtin; refine appendB rfl _ _ rfl w.heap.size _ (putL k v) rfl (ownB_alloc hown _) _ [y] rfl (read_oneB _ y) ?c1 ?c2 ?_; (case c1 => (rw [putL_length]; have := H8.out; simp; omega)); (case c2 => (have := hb.size; simp; omega)); intro v1 w1 hown1 hg1)
      have hb2 : Below w.heap.size w w1 := b_ownB (b_alloc hb _) (ownB_alloc hown _) hg1
      rw [IntWalk.wrap64_in _ (by have := H8.out; omega)]
      refine ⟨⟨k + 1, by omega, ?_, by rw [Int.natCast_succ], by rw [HST.out]; exact hown1, hb2⟩, by simp [intOf]; omega⟩
      have h0 : 0 ≤ v / 256 ^ (k + 1) := Int.ediv_nonneg HV.out (Int.pow_nonneg (by decide))
      have h1 := Int.ediv_le_self (256 ^ (k + 1)) HV.out
      rw [HQQ.out, IntWalk.u64_in _ (by have := HV2.out; omega)]
    · have E : k = n := by omega
      subst E
      have k1 : decide ((k : Int) < N) = false := by rw [decide_eq_false_iff_not, HN.out]; omega
      go_wp2_with fail
      go_ret
      exact ⟨_, rfl, hown, hb⟩
theorem getL_drop (xs : List Int) (k : Nat) (h : k < xs.length) : getL (xs.drop k) = xs.getD k 0 + 256 * getL (xs.drop (k + 1)) := by
  rw [List.drop_eq_getElem_cons h, getL, List.getD_eq_getElem?_getD, List.getElem?_eq_getElem h]; rfl
theorem isBytes_drop {xs : List Int} (h : IsBytes xs) (k : Nat) : IsBytes (xs.drop k) := fun x hx => h x (List.mem_of_mem_drop hx)
theorem pow256_le8 {k : Nat} (h : k ≤ 8) : (256 : Int) ^ k ≤ 18446744073709551616 := by
  have e := Int.ofNat_le.2 (Nat.pow_le_pow_right (show 0 < 256 by decide) h)
  rw [Int.natCast_pow, Int.natCast_pow] at e
  exact e
theorem rget_facts (xs : List Int) (k : Nat) (hb : IsBytes xs) (hl : xs.length ≤ 8) (hk : k < xs.length) : IntKind.u64.wrap (IntKind.u64.wrap (getL (xs.drop (k + 1)) * 256) + xs.getD k 0) = getL (xs.drop k) := by
  obtain ⟨g1, g2⟩ := getL_lt _ (isBytes_drop hb k)
  obtain ⟨g3, g4⟩ := getL_lt _ (isBytes_drop hb (k + 1))
  obtain ⟨x1, x2⟩ := isBytes_at hb k hk
  have h8 := pow256_le8 (k := (xs.drop k).length) (by simp; omega)
  have e := getL_drop xs k hk
  rw [IntWalk.u64_in (getL (xs.drop (k + 1)) * 256) (by omega), IntWalk.u64_in _ (by omega)]
  omega

end Go.Proofs.YtedmjlhgpdeafaaDoor
