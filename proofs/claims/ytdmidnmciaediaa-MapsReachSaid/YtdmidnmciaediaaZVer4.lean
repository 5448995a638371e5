/- Layer 26: the contracts of the program's of, wrong, named, at, places, reckons, calls, objects, blocks. Conditions: those stated. -/
import Derived.Test.YtdmidnmciaediaaZVer3
namespace Go.Proofs.Ytdmidnmciaediaa
open Go.RowKit
set_option linter.unusedVariables false
set_option linter.unusedSimpArgs false
attribute [local go_sem] over_cell over_frozen
def aggD (a : Option Addr) (n c : Nat) (b : Option Addr) (m e : Nat) (k : Int) : Value := .agg #[.slice a n c, .slice b m e, .int .i64 k]
theorem vof_any (a : Option Addr) (n c : Nat) (b : Option Addr) (m e : Nat) (w : World) : Calls Try.prog 125 #[.slice a n c, .slice b m e] w fun r w' => r = .returned (aggD a n c b m e 0) ∧ Below w.heap.size w w' := by
  unfold aggD
  go_enter Try.func125, Try.ntmps125
  go_wp2_with fail
  exact bodyPost_ret (v := .agg #[.slice a n c, .slice b m e, .int .i64 0]) (by simp [results, Try.results125, go_sem]) rfl ⟨rfl, by (repeat' (first | exact Below.refl _ _ | assumption | refine b_alloc ?_ _ | refine b_over ?_ _ | refine b_drew ?_ | refine b_call ?_ (by assumption)))⟩
theorem vwrong_any (k : Int) (w : World) : Calls Try.prog 124 #[.int .i64 k] w fun r w' => r = .returned (aggD none 0 0 none 0 0 k) ∧ Below w.heap.size w w' := by
  unfold aggD
  go_enter Try.func124, Try.ntmps124
  go_wp2_with fail
  exact bodyPost_ret (v := .agg #[.slice none 0 0, .slice none 0 0, .int .i64 k]) (by simp [results, Try.results124, go_sem]) rfl ⟨rfl, by (repeat' (first | exact Below.refl _ _ | assumption | refine b_alloc ?_ _ | refine b_over ?_ _ | refine b_drew ?_ | refine b_call ?_ (by assumption)))⟩
theorem vnamed_t (a : Option Addr) (n c : Nat) (b : Option Addr) (m e : Nat) (k : Int) (w : World) : Calls Try.prog 131 #[.bool true, aggD a n c b m e k] w fun r w' => r = .returned (aggD a n c b m e k) ∧ Below w.heap.size w w' := by
  unfold aggD
  go_enter Try.func131, Try.ntmps131
  go_wp2_with fail
  exact bodyPost_ret (v := .agg #[.slice a n c, .slice b m e, .int .i64 k]) (by simp [results, Try.results131, go_sem]) rfl ⟨rfl, by (repeat' (first | exact Below.refl _ _ | assumption | refine b_alloc ?_ _ | refine b_over ?_ _ | refine b_drew ?_ | refine b_call ?_ (by assumption)))⟩
theorem v_blk3 {w : World} {g : Nat} {u0 u1 u2 : Value} (h : Blk w g [u0, u1, u2]) : w.cell? ⟨g, 0, none⟩ = some u0 ∧ w.cell? ⟨g, 1, none⟩ = some u1 ∧ w.cell? ⟨g, 2, none⟩ = some u2 ∧ ∀ i, w.frozen? ⟨g, i, none⟩ = false :=
  ⟨h.2.1 0 (by simp), h.2.1 1 (by simp), h.2.1 2 (by simp), h.2.2⟩
theorem vnamed_f (a : Option Addr) (n c : Nat) (b : Option Addr) (m e : Nat) (k : Int) (w : World) : Calls Try.prog 131 #[.bool false, aggD a n c b m e k] w fun r w' => r = .returned (aggD none 0 0 none 0 0 5) ∧ Below w.heap.size w w' := by
  unfold aggD
  have HX := Lib.hid (boxes2 w #[.slice a n c, .slice b m e, .int .i64 k] #[.slice none 0 0, .slice none 0 0, .int .i64 0] 179 179)
  go_enter Try.func131, Try.ntmps131
  go_wp2_with fail
  refine (vwrong_any _ _).mono ?_
  rintro r w1 ⟨rfl, hb1⟩
  obtain ⟨q1, q2, q3⟩ := HX.out
  have HB := Lib.hid (b_call q3 hb1)
  obtain ⟨c0, c1, c2, cf⟩ := v_blk3 (blk_below q2 hb1)
  have hz := (blk_below q2 hb1).1
  clear q1 q2 q3 HX hb1
  unfold aggD
  go_wp2_with fail
  exact bodyPost_ret (v := .agg #[.slice none 0 0, .slice none 0 0, .int .i64 5]) (by simp [results, Try.results131, go_sem, c0, c1, c2]) rfl ⟨rfl, b_grown HB.out (gb_set (gb_set (gb_set (gb_refl _ (some (w.heap.size + 1))) _ _ _) _ _ _) _ _ _) (by omega)⟩
theorem vat_any (l : List Int) (k : Int) (a : Option Addr) (c : Nat) (w : World) (h : ReadI w (.slice a l.length c) l) : Calls Try.prog 139 #[.slice a l.length c, .int .i64 k] w fun r w' => r = .returned (.tuple #[.int .i64 (if inL l k = true then atL l k else 0), .bool (inL l k)]) ∧ w = w' := by
  obtain ⟨_, h1, h2⟩ := int_len (s := ⟨a, l.length, c⟩) h
  simp only at h1 h2
  rcases (show k < 0 ∨ (0 ≤ k ∧ (l.length : Int) ≤ k) ∨ ∃ j : Nat, k = j ∧ j < l.length by
    rcases Int.lt_or_le k 0 with q | q
    · exact Or.inl q
    · rcases Int.lt_or_le k l.length with q2 | q2
      · exact Or.inr (Or.inr ⟨k.toNat, by omega, by omega⟩)
      · exact Or.inr (Or.inl ⟨q, q2⟩)) with q | ⟨q1, q2⟩ | ⟨j, rfl, q⟩
  · rw [show inL l k = false by unfold inL; rw [decide_eq_false (by omega)]; rfl, if_neg (by decide)]
    go_enter Try.func139, Try.ntmps139
    go_wp2_with fail
    go_ret2
    exact ⟨rfl, rfl⟩
  · rw [show inL l k = false by unfold inL; rw [decide_eq_true q1, decide_eq_false (by omega)]; rfl, if_neg (by decide)]
    have q3 : ¬ (k < l.length) := by omega
    go_enter Try.func139, Try.ntmps139
    go_wp2_with fail
    go_ret2
    exact ⟨rfl, rfl⟩
  · rw [show inL l j = true by unfold inL; rw [decide_eq_true (by omega), decide_eq_true (by omega)]; rfl, if_pos rfl]
    rw [show atL l j = l.getD j 0 from rfl]
    obtain ⟨b9, o9, c9, e9, _, _, hlt9, h9⟩ := readI_pos h (by omega)
    cases e9
    have hc := h9 j q
    have j0 : (0 : Int) ≤ j := by omega
    have j1 : (j : Int) < l.length := by omega
    clear h9 h
    generalize l.getD j 0 = z at *
    go_enter Try.func139, Try.ntmps139
    go_wp2_with fail
    go_ret2
    exact ⟨rfl, rfl⟩
theorem has_in (f : FnM) (k : Int) : hasOf25 f k = inL (f.ps ++ f.ls) k := by
  unfold hasOf25 inL; rw [List.length_append]; rfl
theorem kind_in {f : FnM} {k : Int} (h : inL (f.ps ++ f.ls) k = true) : kindOf25 f k = atL (f.ps ++ f.ls) k := by
  unfold inL at h
  rw [Bool.and_eq_true, decide_eq_true_iff] at h
  unfold kindOf25 atL
  rw [if_neg (by omega)]
/-- What a deal's lists may lie in. -/
def Far (B : Nat) (w : World) (v : Value) (n : Nat) : Prop := 0 < n → ∀ k, v.ownBlock = some k → k < B ∨ w.heap.size ≤ k
def RetF (B : Nat) (w : World) (D : Deal) (e : Ending) (w' : World) : Prop := ∃ a c b d, e = .returned (aggD a D.t.length c b D.p.length d D.c) ∧ ReadI w' (.slice a D.t.length c) D.t ∧ ReadI w' (.slice b D.p.length d) D.p ∧ Far B w (.slice a D.t.length c) D.t.length ∧ Far B w (.slice b D.p.length d) D.p.length ∧ Below w.heap.size w w'
theorem far_nil (B : Nat) (w : World) (n c m : Nat) : Far B w (.slice none n c) m := fun _ k h => by cases h
theorem far_new {B : Nat} {w : World} {k o : Nat} {n c m : Nat} (h : w.heap.size ≤ k) : Far B w (.slice (some ⟨k, o, none⟩) n c) m := fun _ j hj => by
  have : j = k := by injection hj with hj; exact hj.symm
  omega
theorem far_mono {B : Nat} {w w1 : World} {v : Value} {n : Nat} (h : Far B w1 v n) (hs : w.heap.size ≤ w1.heap.size) : Far B w v n := fun hn k hk => (h hn k hk).elim Or.inl (fun q => Or.inr (by omega))
theorem far_read {W0 w : World} {v : Value} {xs : List Int} (h : ReadI W0 v xs) : Far W0.heap.size w v xs.length := fun hx k hk => by
  obtain ⟨b, o, c, rfl, _, _, h3, _⟩ := readI_pos h hx
  have : k = b := by injection hk with hk; exact hk.symm
  exact Or.inl (by omega)
theorem readI_far {B X : Nat} {w0 w w' : World} {v : Value} {xs : List Int} (h : ReadI w v xs) (hf : Far B w0 v xs.length) (h1 : B ≤ X) (h2 : X < w0.heap.size) (hg : w.grownBy w' (some X)) : ReadI w' v xs := by
  rcases Nat.eq_zero_or_pos xs.length with q | q
  · obtain ⟨a, cap, rfl, e1, e2, e3, _⟩ := h
    exact ⟨a, cap, rfl, e1, e2, e3, fun hp => by omega⟩
  · refine readI_kept h (fun b hb hlt => hg.block b hlt ?_) hg.size
    intro e
    have e : X = b := by injection e with e; exact e.symm
    rcases hf q b hb with q | q <;> omega
theorem lit_far {X k : Nat} {w2 w4 w5 : World} (xs : List Int) (hk : k = w2.heap.size) (hl : xs.length ≤ 100) (hb : Below (w2.alloc (.cells (ints xs).toArray 3)).heap.size (w2.alloc (.cells (ints xs).toArray 3)) w4) (hg : w4.grownBy w5 (some X)) (hX : X < w2.heap.size) : ReadI w5 (.slice (some ⟨k, 0, none⟩) xs.length xs.length) xs :=
  readI_far (B := 0) (w0 := w2) (readI_below (readI_lit xs hk hl) hb) (far_new (by omega)) (Nat.zero_le _) hX hg
theorem gb_set3 (w : World) (X : Nat) (u0 u1 u2 : Value) : w.grownBy (((w.setCell ⟨X, 0, none⟩ u0).setCell ⟨X, 1, none⟩ u1).setCell ⟨X, 2, none⟩ u2) (some X) := gb_set (gb_set (gb_set (gb_refl _ _) _ _ _) _ _ _) _ _ _
theorem boxes4 (w : World) (c1 c2 c3 c4 : Array Value) (T1 T2 T3 T4 : TypeId) : Blk ((((w.alloc (.cells c1 T1)).alloc (.cells c2 T2)).alloc (.cells c3 T3)).alloc (.cells c4 T4)) w.heap.size c1.toList ∧ Blk ((((w.alloc (.cells c1 T1)).alloc (.cells c2 T2)).alloc (.cells c3 T3)).alloc (.cells c4 T4)) (w.heap.size + 1) c2.toList ∧ Blk ((((w.alloc (.cells c1 T1)).alloc (.cells c2 T2)).alloc (.cells c3 T3)).alloc (.cells c4 T4)) (w.heap.size + 2) c3.toList ∧ Blk ((((w.alloc (.cells c1 T1)).alloc (.cells c2 T2)).alloc (.cells c3 T3)).alloc (.cells c4 T4)) (w.heap.size + 3) c4.toList ∧ Below w.heap.size w ((((w.alloc (.cells c1 T1)).alloc (.cells c2 T2)).alloc (.cells c3 T3)).alloc (.cells c4 T4)) := by
  obtain ⟨q1, q2, q3, q4⟩ := boxes3 w c1 c2 c3 T1 T2 T3
  refine ⟨blk_alloc q1 _, blk_alloc q2 _, blk_alloc q3 _, ?_, b_alloc q4 _⟩
  have q := blk_new (((w.alloc (.cells c1 T1)).alloc (.cells c2 T2)).alloc (.cells c3 T3)) c4 T4
  rw [World.size_alloc, World.size_alloc, World.size_alloc] at q; exact q
end Go.Proofs.Ytdmidnmciaediaa
