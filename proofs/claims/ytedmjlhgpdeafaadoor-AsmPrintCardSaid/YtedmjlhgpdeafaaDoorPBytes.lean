/- Slices of bytes: read as lists, or owned by the call. No conditions beside those stated. Numbers as bytes: num.Put, num.Get and the document's own. Conditions: those stated. Layer 24: shapes, words, and what they are told; ours and the document's. No conditions. Layer 24: more contracts: ours and the document's own words. No conditions. -/
import Derived.Test.YtedmjlhgpdeafaaDoorProg
import Derived.Test.YtedmjlhgpdeafaaDoorPBase
import Derived.OwnWalk
import Derived.Deep.QuietTactic
import Derived.BigQuiet
import Derived.StillTailTactics
import Derived.Laws.RangeString
import Derived.Laws.DeepStrings4
import Derived.Deep.LoopGhost
import Derived.Deep.DeepCutAuto
import Derived.Deep.CutBlock
namespace Go.Proofs.YtedmjlhgpdeafaaDoor
section
open Go.RowKit
set_option linter.unusedVariables false
set_option linter.unusedSimpArgs false
theorem Tryd.infoByte : (Tryd.prog.info? 5).map (fun i => (i.zero, i.size, i.bytes)) = some (some (.int .u8 0), 1, 1) := by kernel_rfl
theorem under_byts : Tryd.prog.underlying 51 = some (.slice 5) := Tryd.underlying51
end
section
open Go.RowKit
set_option linter.unusedVariables false
set_option linter.unusedSimpArgs false
/-- 0: told nothing; 1: x; 2: a; 3: a and b; 4: there is none. -/
def kindOf (op : Int) : Nat :=
  if op < 0 ∨ 37 ≤ op then 4 else [0,1,1,0,2,2,2,2,0,0,2,2,2,2,2,0,0,3,2,2,2,2,0,0,0,2,2,0,2,0,0,2,2,0,0,0,0].getD op.toNat 4
def shN (op : Int) : Int := if kindOf op = 3 then 2 else if kindOf op = 2 then 1 else 0
def shX (op : Int) : Bool := kindOf op == 1
def shOk (op : Int) : Bool := kindOf op != 4
theorem kind_cases (op : Int) : (op < 0 ∨ 37 ≤ op) ∨ ∃ k : Nat, k < 37 ∧ op = (k : Int) := by
  rcases (show (op < 0 ∨ 37 ≤ op) ∨ (0 ≤ op ∧ op < 37) by omega) with h | ⟨h1, h2⟩
  · exact Or.inl h
  · exact Or.inr ⟨op.toNat, by omega, by omega⟩
theorem rest_dec : ∀ k : Fin 37, (k.val ≠ 1 ∧ k.val ≠ 2 ∧ k.val ≠ 17 ∧ k.val ≠ 4 ∧ k.val ≠ 5 ∧ k.val ≠ 6 ∧ k.val ≠ 7 ∧ k.val ≠ 10 ∧ k.val ≠ 11 ∧ k.val ≠ 12 ∧ k.val ≠ 13 ∧ k.val ≠ 14 ∧ k.val ≠ 18 ∧ k.val ≠ 19 ∧ k.val ≠ 20 ∧ k.val ≠ 21 ∧ k.val ≠ 25 ∧ k.val ≠ 26 ∧ k.val ≠ 28 ∧ k.val ≠ 31 ∧ k.val ≠ 32) → kindOf (k.val : Int) = 0 := by decide
theorem kind_rest (op : Int) (h : op ≠ 1 ∧ op ≠ 2 ∧ op ≠ 17 ∧ op ≠ 4 ∧ op ≠ 5 ∧ op ≠ 6 ∧ op ≠ 7 ∧ op ≠ 10 ∧ op ≠ 11 ∧ op ≠ 12 ∧ op ≠ 13 ∧ op ≠ 14 ∧ op ≠ 18 ∧ op ≠ 19 ∧ op ≠ 20 ∧ op ≠ 21 ∧ op ≠ 25 ∧ op ≠ 26 ∧ op ≠ 28 ∧ op ≠ 31 ∧ op ≠ 32) : kindOf op = if 0 ≤ op ∧ op < 37 then 0 else 4 := by
  rcases kind_cases op with h1 | ⟨k, hk, rfl⟩
  · rw [if_neg (by omega)]; unfold kindOf; rw [if_pos h1]
  · rw [if_pos (by omega)]
    exact rest_dec ⟨k, hk⟩ (by simp only []; omega)
theorem kind_n {op : Int} {k : Nat} (h : kindOf op = k) : shN op = (if k = 3 then 2 else if k = 2 then 1 else 0) ∧ shX op = (k == 1) ∧ shOk op = (k != 4) := by
  unfold shN shX shOk; rw [h]; exact ⟨rfl, rfl, rfl⟩
theorem shape_any (op : Int) (w : World) : Calls Tryd.prog 35 #[.int .i64 op] w fun e w' => e = .returned (.tuple #[.int .i64 (shN op), .bool (shX op), .bool (shOk op)]) ∧ w = w' := by
  go_enter Tryd.func35, Tryd.ntmps35
  go_wp2_with fail
  all_goals (first | (rename_i hc; obtain rfl := eq_of_beq hc; go_ret3; exact ⟨rfl, rfl⟩) | skip)
  · go_ret3
    have K := kind_rest op (by simp only [beq_eq_false_iff_ne, ne_eq] at *; omega)
    rename_i h0
    by_cases h : op < 37
    · rw [if_pos ⟨h0, h⟩] at K
      obtain ⟨e1, e2, e3⟩ := kind_n K
      rw [e1, e2, e3, decide_eq_true h]; exact ⟨rfl, rfl⟩
    · rw [if_neg (by omega)] at K
      obtain ⟨e1, e2, e3⟩ := kind_n K
      rw [e1, e2, e3, decide_eq_false h]; exact ⟨rfl, rfl⟩
  · go_ret3
    have K := kind_rest op (by simp only [beq_eq_false_iff_ne, ne_eq] at *; omega)
    rw [if_neg (by omega)] at K
    obtain ⟨e1, e2, e3⟩ := kind_n K
    rw [e1, e2, e3]; exact ⟨rfl, rfl⟩
def smallB (n : Int) (t : Bool) : Bool := decide (n = 0) || (t && (decide (0 < n) && decide (n ≤ 65535)))
theorem small_any (n : Int) (t : Bool) (w : World) : Calls Tryd.prog 63 #[.int .i64 n, .bool t] w fun e w' => e = .returned (.bool (smallB n t)) ∧ w = w' := by
  go_enter Tryd.func63, Tryd.ntmps63
  go_wp2_with fail
  all_goals go_ret
  all_goals refine ⟨?_, rfl⟩
  all_goals refine congrArg (fun b => Ending.returned (Value.bool b)) ?_
  all_goals unfold smallB
  all_goals ((try simp_all [show (n == 0) = decide (n = 0) from rfl]); try (intros; omega))
def mayB (op x a b : Int) : Bool := shOk op && (shX op || decide (x = 0)) && smallB a (decide (0 < shN op)) && smallB b (decide (1 < shN op))
theorem may_any (op x a b : Int) (w : World) : Calls Tryd.prog 34 #[.agg #[.int .i64 op, .int .u64 x, .int .i64 a, .int .i64 b]] w fun e w' => e = .returned (.bool (mayB op x a b)) ∧ Below w.heap.size w w' := by
  have M : Hid (mayB op x a b = (shOk op && (shX op || decide (x = 0)) && smallB a (decide (0 < shN op)) && smallB b (decide (1 < shN op)))) := rfl
  have hB : Below w.heap.size w (w.alloc (.cells #[.int .i64 op, .int .u64 x, .int .i64 a, .int .i64 b] 45)) := b_alloc (Below.refl _ _) _
  go_enter Tryd.func34, Tryd.ntmps34
  go_wp2_with fail
  refine (shape_any _ _).mono ?_
  rintro e w1 ⟨rfl, rfl⟩
  generalize shOk op = ok at M ⊢
  generalize shX op = sx at M ⊢
  generalize shN op = n at M ⊢
  cases ok with
  | false =>
    go_wp2_with fail
    go_ret
    exact ⟨by rw [M.out]; rfl, hB⟩
  | true =>
    have key : ∀ p : Bool, Hid ((sx || decide (x = 0)) = p) → Hid (mayB op x a b = (p && smallB a (decide (0 < n)) && smallB b (decide (1 < n)))) := fun p hp => by
      have := M.out; rw [Bool.true_and, hp.out] at this; exact this
    rcases (show sx = true ∨ (sx = false ∧ x = 0) ∨ (sx = false ∧ (x == 0) = false) by cases sx <;> by_cases h : x = 0 <;> simp [h]) with rfl | ⟨rfl, rfl⟩ | ⟨rfl, h⟩
    · replace key := key true rfl
      clear M
      go_wp2_with fail
      refine (small_any _ _ _).mono ?_
      rintro e w1 ⟨rfl, rfl⟩
      generalize smallB a (decide (0 < n)) = s1 at key ⊢
      cases s1 with
      | false => go_wp2_with fail; go_ret; exact ⟨by rw [key.out]; rfl, hB⟩
      | true =>
        go_wp2_with fail
        refine (small_any _ _ _).mono ?_
        rintro e w1 ⟨rfl, rfl⟩
        generalize smallB b (decide (1 < n)) = s2 at key ⊢
        go_wp2_with fail
        go_ret
        exact ⟨by rw [key.out]; cases s2 <;> rfl, hB⟩
    · replace key := key true rfl
      clear M
      go_wp2_with fail
      refine (small_any _ _ _).mono ?_
      rintro e w1 ⟨rfl, rfl⟩
      generalize smallB a (decide (0 < n)) = s1 at key ⊢
      cases s1 with
      | false => go_wp2_with fail; go_ret; exact ⟨by rw [key.out]; rfl, hB⟩
      | true =>
        go_wp2_with fail
        refine (small_any _ _ _).mono ?_
        rintro e w1 ⟨rfl, rfl⟩
        generalize smallB b (decide (1 < n)) = s2 at key ⊢
        go_wp2_with fail
        go_ret
        exact ⟨by rw [key.out]; cases s2 <;> rfl, hB⟩
    · replace key := key false (Lib.hid (by rw [show (x == 0) = decide (x = 0) from rfl] at h; rw [h]; rfl))
      clear M
      go_wp2_with fail
      go_ret
      exact ⟨by rw [key.out]; rfl, hB⟩
def tellS : Nat → ByteArray
  | 0 => ⟨#[]⟩
  | 1 => ⟨#[120]⟩
  | 2 => ⟨#[97]⟩
  | 3 => ⟨#[97, 98]⟩
  | _ => ⟨#[45]⟩
theorem wp_world {P : Program} {c : Code} {Q : Exit → Act → World → Prop} {a : Act} {w : World} (o : Obj) (h : ∀ w1, w1 = w.alloc o → Code.wp P c Q a w1) : Code.wp P c Q a (w.alloc o) := h _ rfl
def toldTab : Array Value := #[Value.string ⟨#[]⟩, Value.string ⟨#[120]⟩, Value.string ⟨#[120]⟩, Value.string ⟨#[]⟩, Value.string ⟨#[97]⟩, Value.string ⟨#[97]⟩, Value.string ⟨#[97]⟩, Value.string ⟨#[97]⟩, Value.string ⟨#[]⟩, Value.string ⟨#[]⟩, Value.string ⟨#[97]⟩, Value.string ⟨#[97]⟩, Value.string ⟨#[97]⟩, Value.string ⟨#[97]⟩, Value.string ⟨#[97]⟩, Value.string ⟨#[]⟩, Value.string ⟨#[]⟩, Value.string ⟨#[97, 98]⟩, Value.string ⟨#[97]⟩, Value.string ⟨#[97]⟩, Value.string ⟨#[97]⟩, Value.string ⟨#[97]⟩, Value.string ⟨#[]⟩, Value.string ⟨#[]⟩, Value.string ⟨#[]⟩, Value.string ⟨#[97]⟩, Value.string ⟨#[97]⟩, Value.string ⟨#[]⟩, Value.string ⟨#[97]⟩, Value.string ⟨#[]⟩, Value.string ⟨#[]⟩, Value.string ⟨#[97]⟩, Value.string ⟨#[97]⟩, Value.string ⟨#[]⟩, Value.string ⟨#[]⟩, Value.string ⟨#[]⟩, Value.string ⟨#[]⟩]
theorem tells_at (k : Nat) (hk : k < 37) : toldTab[k]? = some (.string (tellS (kindOf (k : Int)))) :=
  match k, hk with
  | 0, _ => rfl
  | 1, _ => rfl
  | 2, _ => rfl
  | 3, _ => rfl
  | 4, _ => rfl
  | 5, _ => rfl
  | 6, _ => rfl
  | 7, _ => rfl
  | 8, _ => rfl
  | 9, _ => rfl
  | 10, _ => rfl
  | 11, _ => rfl
  | 12, _ => rfl
  | 13, _ => rfl
  | 14, _ => rfl
  | 15, _ => rfl
  | 16, _ => rfl
  | 17, _ => rfl
  | 18, _ => rfl
  | 19, _ => rfl
  | 20, _ => rfl
  | 21, _ => rfl
  | 22, _ => rfl
  | 23, _ => rfl
  | 24, _ => rfl
  | 25, _ => rfl
  | 26, _ => rfl
  | 27, _ => rfl
  | 28, _ => rfl
  | 29, _ => rfl
  | 30, _ => rfl
  | 31, _ => rfl
  | 32, _ => rfl
  | 33, _ => rfl
  | 34, _ => rfl
  | 35, _ => rfl
  | 36, _ => rfl
  | n + 37, h => absurd h (by omega)
theorem told_any (op : Int) (w : World) : Calls Tryd.prog 39 #[.int .i64 op] w fun e w' => e = .returned (.string (tellS (kindOf op))) ∧ Below w.heap.size w w' := by
  rcases kind_cases op with h | ⟨k, hk, rfl⟩
  · have E : Hid (kindOf op = 4) := Lib.hid (by unfold kindOf; rw [if_pos h])
    go_enter Tryd.func39, Tryd.ntmps39
    go_wp2_with fail
    all_goals go_ret
    all_goals exact ⟨by rw [E.out]; rfl, b_alloc (Below.refl _ _) _⟩
  · have k1 : decide ((k : Int) < 0) = false := by rw [decide_eq_false_iff_not]; omega
    have k2 : decide (37 ≤ (k : Int)) = false := by rw [decide_eq_false_iff_not]; omega
    have k0 : (0 : Int) ≤ k := by omega
    have k3 : (k : Int) < 37 := by omega
    go_enter Tryd.func39, Tryd.ntmps39
    go_upto_region 2 with fail
    refine wp_world (.cells toldTab 9) ?_
    intro w1 hw
    have hB : Below w.heap.size w w1 := by rw [hw]; exact b_alloc (Below.refl _ _) _
    have hc : w1.cell? ⟨w.heap.size, k, none⟩ = some (.string (tellS (kindOf (k : Int)))) := by
      rw [hw, World.cell?_alloc_new]
      exact tells_at k hk
    obtain ⟨s, hs⟩ : ∃ s, s = tellS (kindOf (k : Int)) := ⟨_, rfl⟩
    rw [← hs] at hc
    have HS := Lib.hid hs
    have HK := Lib.hid hk
    clear hw hk hs
    go_wp2_with fail
    go_ret
    exact ⟨by rw [← HS.out]; rfl, hB⟩
def hasB (op s : Int) : Bool := match kindOf op with
  | 0 => false
  | 1 => decide (s = 120)
  | 2 => decide (s = 97)
  | 3 => decide (s = 97) || decide (s = 98)
  | _ => decide (s = 45)
theorem beq_dec (c s : Int) : (c == s) = decide (s = c) := by
  by_cases h : s = c
  · subst h; simp
  · rw [decide_eq_false h]; exact beq_false_of_ne (fun e => h e.symm)
theorem dec_of {c s : Int} {b : Bool} (h : (c == s) = b) : decide (s = c) = b := (beq_dec c s).symm.trans h
theorem has_any (op s : Int) (w : World) : Calls Tryd.prog 40 #[.int .i64 op, .int .u8 s] w fun e w' => e = .returned (.bool (hasB op s)) ∧ Below w.heap.size w w' := by
  have H : Hid (hasB op s = match kindOf op with | 0 => false | 1 => decide (s = 120) | 2 => decide (s = 97) | 3 => decide (s = 97) || decide (s = 98) | _ => decide (s = 45)) := rfl
  go_enter Tryd.func40, Tryd.ntmps40
  go_wp2_with fail
  refine (told_any _ _).mono ?_
  rintro e w1 ⟨rfl, hb⟩
  generalize kindOf op = κ at H ⊢
  match κ, H with
  | 0, H =>
    rw [show tellS 0 = ⟨#[]⟩ from rfl]
    go_wp2_with fail
    go_rounds 1
    go_ret
    exact ⟨by rw [H.out]; rfl, hb⟩
  | 1, H =>
    rw [show tellS 1 = ⟨#[120]⟩ from rfl]
    go_wp2_with fail
    go_rounds 2
    all_goals go_ret
    all_goals refine ⟨?_, hb⟩
    all_goals (rw [H.out]; refine congrArg (fun b => Ending.returned (Value.bool b)) ?_)
    · exact (dec_of (c := 120) (b := true) (by assumption)).symm
    · exact (dec_of (c := 120) (b := false) (by assumption)).symm
  | 2, H =>
    rw [show tellS 2 = ⟨#[97]⟩ from rfl]
    go_wp2_with fail
    go_rounds 2
    all_goals go_ret
    all_goals refine ⟨?_, hb⟩
    all_goals (rw [H.out]; refine congrArg (fun b => Ending.returned (Value.bool b)) ?_)
    · exact (dec_of (c := 97) (b := true) (by assumption)).symm
    · exact (dec_of (c := 97) (b := false) (by assumption)).symm
  | 3, H =>
    rw [show tellS 3 = ⟨#[97, 98]⟩ from rfl]
    go_wp2_with fail
    go_rounds 3
    all_goals go_ret
    all_goals refine ⟨?_, hb⟩
    all_goals (rw [H.out]; refine congrArg (fun b => Ending.returned (Value.bool b)) ?_)
    · rw [dec_of (c := 97) (b := true) (by assumption)]; rfl
    · rw [dec_of (c := 97) (b := false) (by assumption), dec_of (c := 98) (b := true) (by assumption)]; rfl
    · rw [dec_of (c := 97) (b := false) (by assumption), dec_of (c := 98) (b := false) (by assumption)]; rfl
  | n + 4, H =>
    rw [show tellS (n + 4) = ⟨#[45]⟩ from rfl]
    go_wp2_with fail
    go_rounds 2
    all_goals go_ret
    all_goals refine ⟨?_, hb⟩
    all_goals (rw [H.out]; refine congrArg (fun b => Ending.returned (Value.bool b)) ?_)
    · exact (dec_of (c := 45) (b := true) (by assumption)).symm
    · exact (dec_of (c := 45) (b := false) (by assumption)).symm
end
section
open Go.RowKit
set_option linter.unusedVariables false
set_option linter.unusedSimpArgs false
theorem ours_any (op x a b : Int) (w : World) : Calls Tryd.prog 14 #[.agg #[.int .i64 op, .int .u64 x, .int .i64 a, .int .i64 b]] w fun e w' => e = .returned (.agg #[.int .i64 op, .int .u64 x, .int .i64 a, .int .i64 b]) ∧ Below w.heap.size w w' := by
  have hB : Below w.heap.size w (w.alloc (.cells #[.int .i64 op, .int .u64 x, .int .i64 a, .int .i64 b] 42)) := b_alloc (Below.refl _ _) _
  go_enter Tryd.func14, Tryd.ntmps14
  go_wp2_with fail
  exact bodyPost_ret (v := .agg #[.int .i64 op, .int .u64 x, .int .i64 a, .int .i64 b]) (by simp [results, Tryd.results14, go_sem]) rfl ⟨rfl, b_alloc hB _⟩
def nameS : Nat → ByteArray
  | 0 => ⟨#[110, 111, 112]⟩
  | 1 => ⟨#[112, 117, 115, 104]⟩
  | 2 => ⟨#[112, 117, 115, 104, 102]⟩
  | 3 => ⟨#[110, 105, 108]⟩
  | 4 => ⟨#[103, 101, 116]⟩
  | 5 => ⟨#[115, 101, 116]⟩
  | 6 => ⟨#[103, 103, 101, 116]⟩
  | 7 => ⟨#[103, 115, 101, 116]⟩
  | 8 => ⟨#[112, 111, 112]⟩
  | 9 => ⟨#[100, 117, 112]⟩
  | 10 => ⟨#[117, 110]⟩
  | 11 => ⟨#[98, 105, 110]⟩
  | 12 => ⟨#[106, 117, 109, 112]⟩
  | 13 => ⟨#[106, 122]⟩
  | 14 => ⟨#[99, 97, 108, 108]⟩
  | 15 => ⟨#[114, 101, 116]⟩
  | 16 => ⟨#[112, 111, 108, 108]⟩
  | 17 => ⟨#[110, 101, 119]⟩
  | 18 => ⟨#[114, 103, 101, 116]⟩
  | 19 => ⟨#[114, 115, 101, 116]⟩
  | 20 => ⟨#[110, 103, 101, 116]⟩
  | 21 => ⟨#[110, 115, 101, 116]⟩
  | 22 => ⟨#[105, 115, 110, 105, 108]⟩
  | 23 => ⟨#[109, 97, 108, 108, 111, 99]⟩
  | 24 => ⟨#[102, 114, 101, 101]⟩
  | 25 => ⟨#[108, 111, 97, 100]⟩
  | 26 => ⟨#[115, 116, 111, 114, 101]⟩
  | 27 => ⟨#[112, 110, 105, 108]⟩
  | 28 => ⟨#[115, 112, 97, 119, 110]⟩
  | 29 => ⟨#[106, 111, 105, 110]⟩
  | 30 => ⟨#[121, 105, 101, 108, 100]⟩
  | 31 => ⟨#[108, 111, 99, 107]⟩
  | 32 => ⟨#[117, 110, 108, 111, 99, 107]⟩
  | 33 => ⟨#[108, 111, 103]⟩
  | 34 => ⟨#[108, 111, 103, 102]⟩
  | 35 => ⟨#[116, 114, 97, 112]⟩
  | 36 => ⟨#[116, 111, 112, 116, 114]⟩
  | _ => ⟨#[]⟩
def nameTab : Array Value := #[Value.string ⟨#[110, 111, 112]⟩, Value.string ⟨#[112, 117, 115, 104]⟩, Value.string ⟨#[112, 117, 115, 104, 102]⟩, Value.string ⟨#[110, 105, 108]⟩, Value.string ⟨#[103, 101, 116]⟩, Value.string ⟨#[115, 101, 116]⟩, Value.string ⟨#[103, 103, 101, 116]⟩, Value.string ⟨#[103, 115, 101, 116]⟩, Value.string ⟨#[112, 111, 112]⟩, Value.string ⟨#[100, 117, 112]⟩, Value.string ⟨#[117, 110]⟩, Value.string ⟨#[98, 105, 110]⟩, Value.string ⟨#[106, 117, 109, 112]⟩, Value.string ⟨#[106, 122]⟩, Value.string ⟨#[99, 97, 108, 108]⟩, Value.string ⟨#[114, 101, 116]⟩, Value.string ⟨#[112, 111, 108, 108]⟩, Value.string ⟨#[110, 101, 119]⟩, Value.string ⟨#[114, 103, 101, 116]⟩, Value.string ⟨#[114, 115, 101, 116]⟩, Value.string ⟨#[110, 103, 101, 116]⟩, Value.string ⟨#[110, 115, 101, 116]⟩, Value.string ⟨#[105, 115, 110, 105, 108]⟩, Value.string ⟨#[109, 97, 108, 108, 111, 99]⟩, Value.string ⟨#[102, 114, 101, 101]⟩, Value.string ⟨#[108, 111, 97, 100]⟩, Value.string ⟨#[115, 116, 111, 114, 101]⟩, Value.string ⟨#[112, 110, 105, 108]⟩, Value.string ⟨#[115, 112, 97, 119, 110]⟩, Value.string ⟨#[106, 111, 105, 110]⟩, Value.string ⟨#[121, 105, 101, 108, 100]⟩, Value.string ⟨#[108, 111, 99, 107]⟩, Value.string ⟨#[117, 110, 108, 111, 99, 107]⟩, Value.string ⟨#[108, 111, 103]⟩, Value.string ⟨#[108, 111, 103, 102]⟩, Value.string ⟨#[116, 114, 97, 112]⟩, Value.string ⟨#[116, 111, 112, 116, 114]⟩]
theorem names_at (k : Nat) (hk : k < 37) : nameTab[k]? = some (.string (nameS k)) :=
  match k, hk with
  | 0, _ => rfl
  | 1, _ => rfl
  | 2, _ => rfl
  | 3, _ => rfl
  | 4, _ => rfl
  | 5, _ => rfl
  | 6, _ => rfl
  | 7, _ => rfl
  | 8, _ => rfl
  | 9, _ => rfl
  | 10, _ => rfl
  | 11, _ => rfl
  | 12, _ => rfl
  | 13, _ => rfl
  | 14, _ => rfl
  | 15, _ => rfl
  | 16, _ => rfl
  | 17, _ => rfl
  | 18, _ => rfl
  | 19, _ => rfl
  | 20, _ => rfl
  | 21, _ => rfl
  | 22, _ => rfl
  | 23, _ => rfl
  | 24, _ => rfl
  | 25, _ => rfl
  | 26, _ => rfl
  | 27, _ => rfl
  | 28, _ => rfl
  | 29, _ => rfl
  | 30, _ => rfl
  | 31, _ => rfl
  | 32, _ => rfl
  | 33, _ => rfl
  | 34, _ => rfl
  | 35, _ => rfl
  | 36, _ => rfl
  | n + 37, h => absurd h (by omega)
theorem names_any (w : World) : Calls Tryd.prog 41 #[] w fun e w' => e = .returned (.slice (some ⟨w.heap.size, 0, none⟩) 37 37) ∧ w' = w.alloc (.cells nameTab 9) := by
  go_enter Tryd.func41, Tryd.ntmps41
  go_wp2_with fail
  go_ret
  exact ⟨rfl, rfl⟩
theorem kind_le (op : Int) : kindOf op ≤ 4 := by
  rcases kind_cases op with h | ⟨k, hk, rfl⟩
  · unfold kindOf; rw [if_pos h]; exact Nat.le_refl _
  · exact (show ∀ k : Fin 37, kindOf (k.val : Int) ≤ 4 by decide) ⟨k, hk⟩
theorem has_xs (op : Int) : hasB op 120 = (kindOf op == 1) ∧ hasB op 97 = (kindOf op == 2 || kindOf op == 3) ∧ hasB op 98 = (kindOf op == 3) := by
  unfold hasB
  have h : kindOf op ≤ 4 := kind_le op
  generalize kindOf op = n at h
  match n, h with
  | 0, _ => exact ⟨rfl, rfl, rfl⟩
  | 1, _ => exact ⟨rfl, rfl, rfl⟩
  | 2, _ => exact ⟨rfl, rfl, rfl⟩
  | 3, _ => exact ⟨rfl, rfl, rfl⟩
  | 4, _ => exact ⟨rfl, rfl, rfl⟩
theorem may_four {op x a b : Int} (h : kindOf op = 4) : mayB op x a b = false := by
  unfold mayB shOk; rw [h]; rfl
theorem small_out {n : Int} {t : Bool} (h : n < 0 ∨ 65535 < n) : smallB n t = false := by
  unfold smallB; rw [decide_eq_false (by omega)]; cases t <;> simp; omega
theorem small_in {n : Int} {t : Bool} (h : 0 ≤ n) (h' : n ≤ 65535) : smallB n t = (t || decide (n = 0)) := by
  unfold smallB
  by_cases e : n = 0
  · rw [decide_eq_true e]; simp
  · rw [decide_eq_false e, decide_eq_true (show 0 < n by omega), decide_eq_true h']; simp
theorem may_outA {op x a b : Int} (h : a < 0 ∨ 65535 < a) : mayB op x a b = false := by
  unfold mayB; rw [small_out h]; simp
theorem may_outB {op x a b : Int} (h : b < 0 ∨ 65535 < b) : mayB op x a b = false := by
  unfold mayB; rw [small_out h]; simp
theorem may_in {op x a b : Int} (h4 : kindOf op ≠ 4) (h1 : 0 ≤ a) (h2 : a ≤ 65535) (h3 : 0 ≤ b) (h5 : b ≤ 65535) : mayB op x a b = ((hasB op 120 || decide (x = 0)) && (hasB op 97 || decide (a = 0)) && (hasB op 98 || decide (b = 0))) := by
  obtain ⟨e1, e2, e3⟩ := has_xs op
  unfold mayB
  rw [small_in h1 h2, small_in h3 h5, e1, e2, e3]
  unfold shOk shX shN
  have h : kindOf op ≤ 4 := kind_le op
  generalize kindOf op = n at h h4
  match n, h, h4 with
  | 0, _, _ => rfl
  | 1, _, _ => rfl
  | 2, _, _ => rfl
  | 3, _, _ => rfl
  | 4, _, h => exact absurd rfl h
theorem tell_ne {κ : Nat} (h : κ ≤ 4) (h4 : κ ≠ 4) : ¬ (tellS κ).toList = [45] := by
  match κ, h, h4 with
  | 0, _, _ => rw [ByteArray.toList_eq]; decide
  | 1, _, _ => rw [ByteArray.toList_eq]; decide
  | 2, _, _ => rw [ByteArray.toList_eq]; decide
  | 3, _, _ => rw [ByteArray.toList_eq]; decide
  | 4, _, h => exact absurd rfl h
theorem cells4 {w w1 : World} {u0 u1 u2 u3 : Value} {T : TypeId} (h : Below (w.alloc (.cells #[u0, u1, u2, u3] T)).heap.size (w.alloc (.cells #[u0, u1, u2, u3] T)) w1) :
    w1.cell? ⟨w.heap.size, 0, none⟩ = some u0 ∧ w1.cell? ⟨w.heap.size, 1, none⟩ = some u1 ∧ w1.cell? ⟨w.heap.size, 2, none⟩ = some u2 ∧ w1.cell? ⟨w.heap.size, 3, none⟩ = some u3 := by
  have hs : w.heap.size < (w.alloc (.cells #[u0, u1, u2, u3] T)).heap.size := by simp
  refine ⟨?_, ?_, ?_, ?_⟩
  · rw [h.cell (p := ⟨w.heap.size, 0, none⟩) hs, World.cell?_alloc_new]; rfl
  · rw [h.cell (p := ⟨w.heap.size, 1, none⟩) hs, World.cell?_alloc_new]; rfl
  · rw [h.cell (p := ⟨w.heap.size, 2, none⟩) hs, World.cell?_alloc_new]; rfl
  · rw [h.cell (p := ⟨w.heap.size, 3, none⟩) hs, World.cell?_alloc_new]; rfl
set_option maxHeartbeats 2000000 in
theorem rmay_any (op x a b : Int) (w : World) : Calls Tryd.prog 15 #[.agg #[.int .i64 op, .int .u64 x, .int .i64 a, .int .i64 b]] w fun e w' => e = .returned (.bool (mayB op x a b)) ∧ Below w.heap.size w w' := by
  have hB : Below w.heap.size w (w.alloc (.cells #[.int .i64 op, .int .u64 x, .int .i64 a, .int .i64 b] 42)) := b_alloc (Below.refl _ _) _
  go_enter Tryd.func15, Tryd.ntmps15
  go_wp2_with fail
  refine (told_any _ _).mono ?_
  rintro e w1 ⟨rfl, hb1⟩
  obtain ⟨c0, c1, c2, c3⟩ := cells4 hb1
  have hB1 : Below w.heap.size w w1 := b_call hB hb1
  have kle := kind_le op
  obtain ⟨κ, hκ⟩ : ∃ κ, κ = kindOf op := ⟨_, rfl⟩
  rw [← hκ] at kle ⊢
  by_cases h4 : κ = 4
  · subst h4
    rw [show tellS 4 = ⟨#[45]⟩ from rfl]
    go_wp2_with fail
    go_ret
    exact ⟨by rw [may_four hκ.symm]; rfl, hB1⟩
  · have hs : ¬ (tellS κ).toList = [45] := tell_ne kle h4
    have hs2 : ((tellS κ).toList == [45]) = false := beq_false_of_ne hs
    rcases (show a < 0 ∨ (0 ≤ a ∧ 65535 < a) ∨ (0 ≤ a ∧ a ≤ 65535) by omega) with ha | ⟨ha1, ha2⟩ | ⟨ha1, ha2⟩
    · have M := Lib.hid (may_outA (op := op) (x := x) (b := b) (Or.inl ha))
      have HK := Lib.hid hκ; clear hκ
      go_wp2_with fail
      all_goals (go_ret; exact ⟨by rw [M.out]; rfl, hB1⟩)
    · have M := Lib.hid (may_outA (op := op) (x := x) (b := b) (Or.inr ha2))
      have HK := Lib.hid hκ; clear hκ
      go_wp2_with fail
      all_goals (go_ret; exact ⟨by rw [M.out]; rfl, hB1⟩)
    · rcases (show b < 0 ∨ (0 ≤ b ∧ 65535 < b) ∨ (0 ≤ b ∧ b ≤ 65535) by omega) with hb | ⟨hb3, hb4⟩ | ⟨hb3, hb4⟩
      · have M := Lib.hid (may_outB (op := op) (x := x) (a := a) (Or.inl hb))
        have HK := Lib.hid hκ; clear hκ
        go_wp2_with fail
        all_goals (go_ret; exact ⟨by rw [M.out]; rfl, hB1⟩)
      · have M := Lib.hid (may_outB (op := op) (x := x) (a := a) (Or.inr hb4))
        have HK := Lib.hid hκ; clear hκ
        go_wp2_with fail
        all_goals (go_ret; exact ⟨by rw [M.out]; rfl, hB1⟩)
      · have M := Lib.hid (may_in (x := x) (hκ ▸ h4) ha1 ha2 hb3 hb4)
        have HK := Lib.hid hκ; clear hκ
        go_wp2_with fail
        refine (has_any _ _ _).mono ?_
        rintro e w2 ⟨rfl, hb2⟩
        have hB2 : Below w.heap.size w w2 := b_call hB1 hb2
        replace hb2 := b_call hb1 hb2
        clear c0 c1 c2 c3
        obtain ⟨c0, c1, c2, c3⟩ := cells4 hb2
        generalize hasB op 120 = q0 at M ⊢
        rcases (show q0 = true ∨ (q0 = false ∧ x = 0) ∨ (q0 = false ∧ (x == 0) = false) by cases q0 <;> by_cases h : x = 0 <;> simp [h]) with rfl | ⟨rfl, rfl⟩ | ⟨rfl, hz⟩
        · go_wp2_with fail
          refine (has_any _ _ _).mono ?_
          rintro e w3 ⟨rfl, hb3⟩
          have hB3 : Below w.heap.size w w3 := b_call hB2 hb3
          replace hb3 := b_call hb2 hb3
          clear c0 c1 c2 c3
          obtain ⟨c0, c1, c2, c3⟩ := cells4 hb3
          generalize hasB op 97 = q1 at M ⊢
          rcases (show q1 = true ∨ (q1 = false ∧ a = 0) ∨ (q1 = false ∧ (a == 0) = false) by cases q1 <;> by_cases h : a = 0 <;> simp [h]) with rfl | ⟨rfl, rfl⟩ | ⟨rfl, hz⟩
          · go_wp2_with fail
            refine (has_any _ _ _).mono ?_
            rintro e w4 ⟨rfl, hb4⟩
            have hB4 : Below w.heap.size w w4 := b_call hB3 hb4
            replace hb4 := b_call hb3 hb4
            clear c0 c1 c2 c3
            obtain ⟨c0, c1, c2, c3⟩ := cells4 hb4
            generalize hasB op 98 = q2 at M ⊢
            rcases (show q2 = true ∨ (q2 = false ∧ b = 0) ∨ (q2 = false ∧ (b == 0) = false) by cases q2 <;> by_cases h : b = 0 <;> simp [h]) with rfl | ⟨rfl, rfl⟩ | ⟨rfl, hz⟩
            · go_wp2_with fail
              go_ret
              exact ⟨by rw [M.out]; rfl, hB4⟩
            · go_wp2_with fail
              go_ret
              exact ⟨by rw [M.out]; rfl, hB4⟩
            · have M2 := M.out; have hz2 := hz; rw [show (b == 0) = decide (b = 0) from rfl] at hz2; rw [hz2] at M2; simp only [Bool.or_self, Bool.and_false, Bool.false_and, Bool.false_or, Bool.or_false] at M2; clear hz2
              replace M := Lib.hid M2; clear M2
              go_wp2_with fail
              go_ret
              exact ⟨by rw [M.out]; rfl, hB4⟩
          · go_wp2_with fail
            refine (has_any _ _ _).mono ?_
            rintro e w4 ⟨rfl, hb4⟩
            have hB4 : Below w.heap.size w w4 := b_call hB3 hb4
            replace hb4 := b_call hb3 hb4
            clear c0 c1 c2 c3
            obtain ⟨c0, c1, c2, c3⟩ := cells4 hb4
            generalize hasB op 98 = q2 at M ⊢
            rcases (show q2 = true ∨ (q2 = false ∧ b = 0) ∨ (q2 = false ∧ (b == 0) = false) by cases q2 <;> by_cases h : b = 0 <;> simp [h]) with rfl | ⟨rfl, rfl⟩ | ⟨rfl, hz⟩
            · go_wp2_with fail
              go_ret
              exact ⟨by rw [M.out]; rfl, hB4⟩
            · go_wp2_with fail
              go_ret
              exact ⟨by rw [M.out]; rfl, hB4⟩
            · have M2 := M.out; have hz2 := hz; rw [show (b == 0) = decide (b = 0) from rfl] at hz2; rw [hz2] at M2; simp only [Bool.or_self, Bool.and_false, Bool.false_and, Bool.false_or, Bool.or_false] at M2; clear hz2
              replace M := Lib.hid M2; clear M2
              go_wp2_with fail
              go_ret
              exact ⟨by rw [M.out]; rfl, hB4⟩
          · have M2 := M.out; have hz2 := hz; rw [show (a == 0) = decide (a = 0) from rfl] at hz2; rw [hz2] at M2; simp only [Bool.or_self, Bool.and_false, Bool.false_and, Bool.false_or, Bool.or_false] at M2; clear hz2
            replace M := Lib.hid M2; clear M2
            go_wp2_with fail
            go_ret
            exact ⟨by rw [M.out]; rfl, hB3⟩
        · go_wp2_with fail
          refine (has_any _ _ _).mono ?_
          rintro e w3 ⟨rfl, hb3⟩
          have hB3 : Below w.heap.size w w3 := b_call hB2 hb3
          replace hb3 := b_call hb2 hb3
          clear c0 c1 c2 c3
          obtain ⟨c0, c1, c2, c3⟩ := cells4 hb3
          generalize hasB op 97 = q1 at M ⊢
          rcases (show q1 = true ∨ (q1 = false ∧ a = 0) ∨ (q1 = false ∧ (a == 0) = false) by cases q1 <;> by_cases h : a = 0 <;> simp [h]) with rfl | ⟨rfl, rfl⟩ | ⟨rfl, hz⟩
          · go_wp2_with fail
            refine (has_any _ _ _).mono ?_
            rintro e w4 ⟨rfl, hb4⟩
            have hB4 : Below w.heap.size w w4 := b_call hB3 hb4
            replace hb4 := b_call hb3 hb4
            clear c0 c1 c2 c3
            obtain ⟨c0, c1, c2, c3⟩ := cells4 hb4
            generalize hasB op 98 = q2 at M ⊢
            rcases (show q2 = true ∨ (q2 = false ∧ b = 0) ∨ (q2 = false ∧ (b == 0) = false) by cases q2 <;> by_cases h : b = 0 <;> simp [h]) with rfl | ⟨rfl, rfl⟩ | ⟨rfl, hz⟩
            · go_wp2_with fail
              go_ret
              exact ⟨by rw [M.out]; rfl, hB4⟩
            · go_wp2_with fail
              go_ret
              exact ⟨by rw [M.out]; rfl, hB4⟩
            · have M2 := M.out; have hz2 := hz; rw [show (b == 0) = decide (b = 0) from rfl] at hz2; rw [hz2] at M2; simp only [Bool.or_self, Bool.and_false, Bool.false_and, Bool.false_or, Bool.or_false] at M2; clear hz2
              replace M := Lib.hid M2; clear M2
              go_wp2_with fail
              go_ret
              exact ⟨by rw [M.out]; rfl, hB4⟩
          · go_wp2_with fail
            refine (has_any _ _ _).mono ?_
            rintro e w4 ⟨rfl, hb4⟩
            have hB4 : Below w.heap.size w w4 := b_call hB3 hb4
            replace hb4 := b_call hb3 hb4
            clear c0 c1 c2 c3
            obtain ⟨c0, c1, c2, c3⟩ := cells4 hb4
            generalize hasB op 98 = q2 at M ⊢
            rcases (show q2 = true ∨ (q2 = false ∧ b = 0) ∨ (q2 = false ∧ (b == 0) = false) by cases q2 <;> by_cases h : b = 0 <;> simp [h]) with rfl | ⟨rfl, rfl⟩ | ⟨rfl, hz⟩
            · go_wp2_with fail
              go_ret
              exact ⟨by rw [M.out]; rfl, hB4⟩
            · go_wp2_with fail
              go_ret
              exact ⟨by rw [M.out]; rfl, hB4⟩
            · have M2 := M.out; have hz2 := hz; rw [show (b == 0) = decide (b = 0) from rfl] at hz2; rw [hz2] at M2; simp only [Bool.or_self, Bool.and_false, Bool.false_and, Bool.false_or, Bool.or_false] at M2; clear hz2
              replace M := Lib.hid M2; clear M2
              go_wp2_with fail
              go_ret
              exact ⟨by rw [M.out]; rfl, hB4⟩
          · have M2 := M.out; have hz2 := hz; rw [show (a == 0) = decide (a = 0) from rfl] at hz2; rw [hz2] at M2; simp only [Bool.or_self, Bool.and_false, Bool.false_and, Bool.false_or, Bool.or_false] at M2; clear hz2
            replace M := Lib.hid M2; clear M2
            go_wp2_with fail
            go_ret
            exact ⟨by rw [M.out]; rfl, hB3⟩
        · have M2 := M.out; have hz2 := hz; rw [show (x == 0) = decide (x = 0) from rfl] at hz2; rw [hz2] at M2; simp only [Bool.or_self, Bool.and_false, Bool.false_and, Bool.false_or, Bool.or_false] at M2; clear hz2
          replace M := Lib.hid M2; clear M2
          go_wp2_with fail
          go_ret
          exact ⟨by rw [M.out]; rfl, hB2⟩
end
end Go.Proofs.YtedmjlhgpdeafaaDoor
