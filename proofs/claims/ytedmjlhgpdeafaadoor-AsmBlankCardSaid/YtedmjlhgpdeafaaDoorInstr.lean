/- Layer 24: shapes, words, and what they are told; ours and the document's. No conditions. -/
import Derived.Test.YtedmjlhgpdeafaaDoorNum
import Derived.Laws.RangeString
import Derived.Laws.DeepStrings4
import Derived.Deep.LoopGhost
import Derived.Deep.DeepCutAuto
import Derived.Deep.CutBlock
namespace Go.Proofs.YtedmjlhgpdeafaaDoor
open Go.RowKit
set_option linter.unusedVariables false
set_option linter.unusedSimpArgs false
/-- 0: told nothing; 1: x; 2: a; 3: a and b; 4: there is none. -/
def kindOf (op : Int) : Nat :=
  if op < 0 ∨ 37 ≤ op then 4 else [0,1,1,0,2,2,2,2,0,0,2,2,2,2,2,0,0,3,2,2,2,2,0,0,0,2,2,0,2,0,0,2,2,0,0,0,0].getD op.toNat 4
def shN (op : Int) : Int := if kindOf op = 3 then 2 else if kindOf op = 2 then 1 else 0
def shX (op : Int) : Bool := kindOf op == 1
def shOk (op : Int) : Bool := kindOf op != 4
theorem kind_cases (op : Int) : (op < 0 ∨ 37 ≤ op) ∨ ∃ k : Nat, k < 37 ∧ op = (k : Int) := by
  rcases (show (op < 0 ∨ 37 ≤ op) ∨ (0 ≤ op ∧ op < 37) by omega) with h | ⟨h1, h2⟩
  · exact Or.inl h
  · exact Or.inr ⟨op.toNat, by omega, by omega⟩
theorem rest_dec : ∀ k : Fin 37, (k.val ≠ 1 ∧ k.val ≠ 2 ∧ k.val ≠ 17 ∧ k.val ≠ 4 ∧ k.val ≠ 5 ∧ k.val ≠ 6 ∧ k.val ≠ 7 ∧ k.val ≠ 10 ∧ k.val ≠ 11 ∧ k.val ≠ 12 ∧ k.val ≠ 13 ∧ k.val ≠ 14 ∧ k.val ≠ 18 ∧ k.val ≠ 19 ∧ k.val ≠ 20 ∧ k.val ≠ 21 ∧ k.val ≠ 25 ∧ k.val ≠ 26 ∧ k.val ≠ 28 ∧ k.val ≠ 31 ∧ k.val ≠ 32) → kindOf (k.val : Int) = 0 := by decide
theorem kind_rest (op : Int) (h : op ≠ 1 ∧ op ≠ 2 ∧ op ≠ 17 ∧ op ≠ 4 ∧ op ≠ 5 ∧ op ≠ 6 ∧ op ≠ 7 ∧ op ≠ 10 ∧ op ≠ 11 ∧ op ≠ 12 ∧ op ≠ 13 ∧ op ≠ 14 ∧ op ≠ 18 ∧ op ≠ 19 ∧ op ≠ 20 ∧ op ≠ 21 ∧ op ≠ 25 ∧ op ≠ 26 ∧ op ≠ 28 ∧ op ≠ 31 ∧ op ≠ 32) : kindOf op = if 0 ≤ op ∧ op < 37 then 0 else 4 := by
  rcases kind_cases op with h1 | ⟨k, hk, rfl⟩
  · rw [if_neg (by omega)]; unfold kindOf; rw [if_pos h1]
  · rw [if_pos (by omega)]
    exact rest_dec ⟨k, hk⟩ (by simp only []; omega)
theorem kind_n {op : Int} {k : Nat} (h : kindOf op = k) : shN op = (if k = 3 then 2 else if k = 2 then 1 else 0) ∧ shX op = (k == 1) ∧ shOk op = (k != 4) := by
  unfold shN shX shOk; rw [h]; exact ⟨rfl, rfl, rfl⟩
theorem shape_any (op : Int) (w : World) : Calls Tryd.prog 35 #[.int .i64 op] w fun e w' => e = .returned (.tuple #[.int .i64 (shN op), .bool (shX op), .bool (shOk op)]) ∧ w = w' := by
  go_enter Tryd.func35, Tryd.ntmps35
  go_wp2_with fail
  all_goals (first | (rename_i hc; obtain rfl := eq_of_beq hc; go_ret3; exact ⟨rfl, rfl⟩) | skip)
  · go_ret3
    have K := kind_rest op (by simp only [beq_eq_false_iff_ne, ne_eq] at *; omega)
    rename_i h0
    by_cases h : op < 37
    · rw [if_pos ⟨h0, h⟩] at K
      obtain ⟨e1, e2, e3⟩ := kind_n K
      rw [e1, e2, e3, decide_eq_true h]; exact ⟨rfl, rfl⟩
    · rw [if_neg (by omega)] at K
      obtain ⟨e1, e2, e3⟩ := kind_n K
      rw [e1, e2, e3, decide_eq_false h]; exact ⟨rfl, rfl⟩
  · go_ret3
    have K := kind_rest op (by simp only [beq_eq_false_iff_ne, ne_eq] at *; omega)
    rw [if_neg (by omega)] at K
    obtain ⟨e1, e2, e3⟩ := kind_n K
    rw [e1, e2, e3]; exact ⟨rfl, rfl⟩
def smallB (n : Int) (t : Bool) : Bool := decide (n = 0) || (t && (decide (0 < n) && decide (n ≤ 65535)))
theorem small_any (n : Int) (t : Bool) (w : World) : Calls Tryd.prog 63 #[.int .i64 n, .bool t] w fun e w' => e = .returned (.bool (smallB n t)) ∧ w = w' := by
  go_enter Tryd.func63, Tryd.ntmps63
  go_wp2_with fail
  all_goals go_ret
  all_goals refine ⟨?_, rfl⟩
  all_goals refine congrArg (fun b => Ending.returned (Value.bool b)) ?_
  all_goals unfold smallB
  all_goals ((try simp_all [show (n == 0) = decide (n = 0) from rfl]); try (intros; omega))
def mayB (op x a b : Int) : Bool := shOk op && (shX op || decide (x = 0)) && smallB a (decide (0 < shN op)) && smallB b (decide (1 < shN op))
theorem may_any (op x a b : Int) (w : World) : Calls Tryd.prog 34 #[.agg #[.int .i64 op, .int .u64 x, .int .i64 a, .int .i64 b]] w fun e w' => e = .returned (.bool (mayB op x a b)) ∧ Below w.heap.size w w' := by
  have M : Hid (mayB op x a b = (shOk op && (shX op || decide (x = 0)) && smallB a (decide (0 < shN op)) && smallB b (decide (1 < shN op)))) := rfl
  have hB : Below w.heap.size w (w.alloc (.cells #[.int .i64 op, .int .u64 x, .int .i64 a, .int .i64 b] 45)) := b_alloc (Below.refl _ _) _
  go_enter Tryd.func34, Tryd.ntmps34
  go_wp2_with fail
  refine (shape_any _ _).mono ?_
  rintro e w1 ⟨rfl, rfl⟩
  generalize shOk op = ok at M ⊢
  generalize shX op = sx at M ⊢
  generalize shN op = n at M ⊢
  cases ok with
  | false =>
    go_wp2_with fail
    go_ret
    exact ⟨by rw [M.out]; rfl, hB⟩
  | true =>
    have key : ∀ p : Bool, Hid ((sx || decide (x = 0)) = p) → Hid (mayB op x a b = (p && smallB a (decide (0 < n)) && smallB b (decide (1 < n)))) := fun p hp => by
      have := M.out; rw [Bool.true_and, hp.out] at this; exact this
    rcases (show sx = true ∨ (sx = false ∧ x = 0) ∨ (sx = false ∧ (x == 0) = false) by cases sx <;> by_cases h : x = 0 <;> simp [h]) with rfl | ⟨rfl, rfl⟩ | ⟨rfl, h⟩
    · replace key := key true rfl
      clear M
      go_wp2_with fail
      refine (small_any _ _ _).mono ?_
      rintro e w1 ⟨rfl, rfl⟩
      generalize smallB a (decide (0 < n)) = s1 at key ⊢
      cases s1 with
      | false => go_wp2_with fail; go_ret; exact ⟨by rw [key.out]; rfl, hB⟩
      | true =>
        go_wp2_with fail
        refine (small_any _ _ _).mono ?_
        rintro e w1 ⟨rfl, rfl⟩
        generalize smallB b (decide (1 < n)) = s2 at key ⊢
        go_wp2_with fail
        go_ret
        exact ⟨by rw [key.out]; cases s2 <;> rfl, hB⟩
    · replace key := key true rfl
      clear M
      go_wp2_with fail
      refine (small_any _ _ _).mono ?_
      rintro e w1 ⟨rfl, rfl⟩
      generalize smallB a (decide (0 < n)) = s1 at key ⊢
      cases s1 with
      | false => go_wp2_with fail; go_ret; exact ⟨by rw [key.out]; rfl, hB⟩
      | true =>
        go_wp2_with fail
        refine (small_any _ _ _).mono ?_
        rintro e w1 ⟨rfl, rfl⟩
        generalize smallB b (decide (1 < n)) = s2 at key ⊢
        go_wp2_with fail
        go_ret
        exact ⟨by rw [key.out]; cases s2 <;> rfl, hB⟩
    · replace key := key false (Lib.hid (by rw [show (x == 0) = decide (x = 0) from rfl] at h; rw [h]; rfl))
      clear M
      go_wp2_with fail
      go_ret
      exact ⟨by rw [key.out]; rfl, hB⟩
def tellS : Nat → ByteArray
  | 0 => ⟨#[]⟩
  | 1 => ⟨#[120]⟩
  | 2 => ⟨#[97]⟩
  | 3 => ⟨#[97, 98]⟩
  | _ => ⟨#[45]⟩
theorem wp_world {P : Program} {c : Code} {Q : Exit → Act → World → Prop} {a : Act} {w : World} (o : Obj) (h : ∀ w1, w1 = w.alloc o → Code.wp P c Q a w1) : Code.wp P c Q a (w.alloc o) := h _ rfl
def toldTab : Array Value := #[Value.string ⟨#[]⟩, Value.string ⟨#[120]⟩, Value.string ⟨#[120]⟩, Value.string ⟨#[]⟩, Value.string ⟨#[97]⟩, Value.string ⟨#[97]⟩, Value.string ⟨#[97]⟩, Value.string ⟨#[97]⟩, Value.string ⟨#[]⟩, Value.string ⟨#[]⟩, Value.string ⟨#[97]⟩, Value.string ⟨#[97]⟩, Value.string ⟨#[97]⟩, Value.string ⟨#[97]⟩, Value.string ⟨#[97]⟩, Value.string ⟨#[]⟩, Value.string ⟨#[]⟩, Value.string ⟨#[97, 98]⟩, Value.string ⟨#[97]⟩, Value.string ⟨#[97]⟩, Value.string ⟨#[97]⟩, Value.string ⟨#[97]⟩, Value.string ⟨#[]⟩, Value.string ⟨#[]⟩, Value.string ⟨#[]⟩, Value.string ⟨#[97]⟩, Value.string ⟨#[97]⟩, Value.string ⟨#[]⟩, Value.string ⟨#[97]⟩, Value.string ⟨#[]⟩, Value.string ⟨#[]⟩, Value.string ⟨#[97]⟩, Value.string ⟨#[97]⟩, Value.string ⟨#[]⟩, Value.string ⟨#[]⟩, Value.string ⟨#[]⟩, Value.string ⟨#[]⟩]
theorem tells_at (k : Nat) (hk : k < 37) : toldTab[k]? = some (.string (tellS (kindOf (k : Int)))) :=
  match k, hk with
  | 0, _ => rfl
  | 1, _ => rfl
  | 2, _ => rfl
  | 3, _ => rfl
  | 4, _ => rfl
  | 5, _ => rfl
  | 6, _ => rfl
  | 7, _ => rfl
  | 8, _ => rfl
  | 9, _ => rfl
  | 10, _ => rfl
  | 11, _ => rfl
  | 12, _ => rfl
  | 13, _ => rfl
  | 14, _ => rfl
  | 15, _ => rfl
  | 16, _ => rfl
  | 17, _ => rfl
  | 18, _ => rfl
  | 19, _ => rfl
  | 20, _ => rfl
  | 21, _ => rfl
  | 22, _ => rfl
  | 23, _ => rfl
  | 24, _ => rfl
  | 25, _ => rfl
  | 26, _ => rfl
  | 27, _ => rfl
  | 28, _ => rfl
  | 29, _ => rfl
  | 30, _ => rfl
  | 31, _ => rfl
  | 32, _ => rfl
  | 33, _ => rfl
  | 34, _ => rfl
  | 35, _ => rfl
  | 36, _ => rfl
  | n + 37, h => absurd h (by omega)
theorem told_any (op : Int) (w : World) : Calls Tryd.prog 39 #[.int .i64 op] w fun e w' => e = .returned (.string (tellS (kindOf op))) ∧ Below w.heap.size w w' := by
  rcases kind_cases op with h | ⟨k, hk, rfl⟩
  · have E : Hid (kindOf op = 4) := Lib.hid (by unfold kindOf; rw [if_pos h])
    go_enter Tryd.func39, Tryd.ntmps39
    go_wp2_with fail
    all_goals go_ret
    all_goals exact ⟨by rw [E.out]; rfl, b_alloc (Below.refl _ _) _⟩
  · have k1 : decide ((k : Int) < 0) = false := by rw [decide_eq_false_iff_not]; omega
    have k2 : decide (37 ≤ (k : Int)) = false := by rw [decide_eq_false_iff_not]; omega
    have k0 : (0 : Int) ≤ k := by omega
    have k3 : (k : Int) < 37 := by omega
    go_enter Tryd.func39, Tryd.ntmps39
    go_upto_region 2 with fail
    refine wp_world (.cells toldTab 9) ?_
    intro w1 hw
    have hB : Below w.heap.size w w1 := by rw [hw]; exact b_alloc (Below.refl _ _) _
    have hc : w1.cell? ⟨w.heap.size, k, none⟩ = some (.string (tellS (kindOf (k : Int)))) := by
      rw [hw, World.cell?_alloc_new]
      exact tells_at k hk
    obtain ⟨s, hs⟩ : ∃ s, s = tellS (kindOf (k : Int)) := ⟨_, rfl⟩
    rw [← hs] at hc
    have HS := Lib.hid hs
    have HK := Lib.hid hk
    clear hw hk hs
    go_wp2_with fail
    go_ret
    exact ⟨by rw [← HS.out]; rfl, hB⟩
def hasB (op s : Int) : Bool := match kindOf op with
  | 0 => false
  | 1 => decide (s = 120)
  | 2 => decide (s = 97)
  | 3 => decide (s = 97) || decide (s = 98)
  | _ => decide (s = 45)
theorem beq_dec (c s : Int) : (c == s) = decide (s = c) := by
  by_cases h : s = c
  · subst h; simp
  · rw [decide_eq_false h]; exact beq_false_of_ne (fun e => h e.symm)
theorem dec_of {c s : Int} {b : Bool} (h : (c == s) = b) : decide (s = c) = b := (beq_dec c s).symm.trans h
theorem has_any (op s : Int) (w : World) : Calls Tryd.prog 40 #[.int .i64 op, .int .u8 s] w fun e w' => e = .returned (.bool (hasB op s)) ∧ Below w.heap.size w w' := by
  have H : Hid (hasB op s = match kindOf op with | 0 => false | 1 => decide (s = 120) | 2 => decide (s = 97) | 3 => decide (s = 97) || decide (s = 98) | _ => decide (s = 45)) := rfl
  go_enter Tryd.func40, Tryd.ntmps40
  go_wp2_with fail
  refine (told_any _ _).mono ?_
  rintro e w1 ⟨rfl, hb⟩
  generalize kindOf op = κ at H ⊢
  match κ, H with
  | 0, H =>
    rw [show tellS 0 = ⟨#[]⟩ from rfl]
    go_wp2_with fail
    go_rounds 1
    go_ret
    exact ⟨by rw [H.out]; rfl, hb⟩
  | 1, H =>
    rw [show tellS 1 = ⟨#[120]⟩ from rfl]
    go_wp2_with fail
    go_rounds 2
    all_goals go_ret
    all_goals refine ⟨?_, hb⟩
    all_goals (rw [H.out]; refine congrArg (fun b => Ending.returned (Value.bool b)) ?_)
    · exact (dec_of (c := 120) (b := true) (by assumption)).symm
    · exact (dec_of (c := 120) (b := false) (by assumption)).symm
  | 2, H =>
    rw [show tellS 2 = ⟨#[97]⟩ from rfl]
    go_wp2_with fail
    go_rounds 2
    all_goals go_ret
    all_goals refine ⟨?_, hb⟩
    all_goals (rw [H.out]; refine congrArg (fun b => Ending.returned (Value.bool b)) ?_)
    · exact (dec_of (c := 97) (b := true) (by assumption)).symm
    · exact (dec_of (c := 97) (b := false) (by assumption)).symm
  | 3, H =>
    rw [show tellS 3 = ⟨#[97, 98]⟩ from rfl]
    go_wp2_with fail
    go_rounds 3
    all_goals go_ret
    all_goals refine ⟨?_, hb⟩
    all_goals (rw [H.out]; refine congrArg (fun b => Ending.returned (Value.bool b)) ?_)
    · rw [dec_of (c := 97) (b := true) (by assumption)]; rfl
    · rw [dec_of (c := 97) (b := false) (by assumption), dec_of (c := 98) (b := true) (by assumption)]; rfl
    · rw [dec_of (c := 97) (b := false) (by assumption), dec_of (c := 98) (b := false) (by assumption)]; rfl
  | n + 4, H =>
    rw [show tellS (n + 4) = ⟨#[45]⟩ from rfl]
    go_wp2_with fail
    go_rounds 2
    all_goals go_ret
    all_goals refine ⟨?_, hb⟩
    all_goals (rw [H.out]; refine congrArg (fun b => Ending.returned (Value.bool b)) ?_)
    · exact (dec_of (c := 45) (b := true) (by assumption)).symm
    · exact (dec_of (c := 45) (b := false) (by assumption)).symm
end Go.Proofs.YtedmjlhgpdeafaaDoor
