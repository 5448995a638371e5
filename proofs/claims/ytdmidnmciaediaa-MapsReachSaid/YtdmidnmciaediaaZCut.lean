/- Layer 25's Cut: a program that is not too great. Conditions: the program reads as lists. -/
import Derived.Test.YtdmidnmciaediaaZInts
import Derived.Test.YtdmidnmciaediaaZHeldE
import Derived.Deep.LoopGhost
import Derived.Deep.DeepCutAuto
import Derived.Deep.CutBlock
namespace Go.Proofs.Ytdmidnmciaediaa
open Go.RowKit
set_option linter.unusedVariables false
set_option linter.unusedSimpArgs false
attribute [local go_sem] over_cell over_frozen
theorem rowFn : IsRow Try.prog 23 35 4 80 (.agg #[.slice none 0 0, .slice none 0 0, .int .i64 0, .slice none 0 0]) := ⟨Try.underlying23, by kernel_rfl, by rfl⟩
def c10 (n : Nat) : Nat := if 10 < n then 10 else n
def c100 (n : Nat) : Nat := if 100 < n then 100 else n
theorem readI_c10 {w : World} {a : Option Addr} {n c : Nat} {xs : List Int} (h : ReadI w (.slice a n c) xs) : ReadI w (.slice a (c10 n) c) (xs.take 10) := by
  have hn : n = xs.length := by obtain ⟨_, _, e, _⟩ := h; cases e; rfl
  unfold c10
  by_cases q : 10 < n
  · rw [if_pos q]; exact readI_take h (by omega)
  · rw [if_neg q, List.take_of_length_le (by omega)]; exact h
theorem readN_c100 {w : World} {a : Option Addr} {n c : Nat} {xs : List In4} (h : ReadR inE w (.slice a n c) xs) : ReadR inE w (.slice a (c100 n) c) (xs.take 100) := by
  have hn : n = xs.length := by obtain ⟨_, _, e, _⟩ := h; cases e; rfl
  unfold c100
  by_cases q : 100 < n
  · rw [if_pos q]; exact readR_take h (by omega)
  · rw [if_neg q, List.take_of_length_le (by omega)]; exact h
theorem ints_any (a : Option Addr) (n c : Nat) (w : World) (hc1 : n ≤ c) (hc2 : c ≤ maxLen) : Calls Try.prog 57 #[.slice a n c] w fun e w' => e = .returned (.slice a (c10 n) c) ∧ w = w' := by
  have hcm := cap_le hc2
  unfold c10
  by_cases q : 10 < n
  · rw [if_pos q]
    have q1 : (10 : Int) < n := by omega
    have q2 : (10 : Int) ≤ c := by omega
    have q3 : 10 ≤ c := by omega
    go_enter Try.func57, Try.ntmps57
    go_wp2_with fail
    go_ret
    exact ⟨rfl, rfl⟩
  · rw [if_neg q]
    have q1 : ¬ (10 : Int) < n := by omega
    go_enter Try.func57, Try.ntmps57
    go_wp2_with fail
    go_ret
    exact ⟨rfl, rfl⟩
theorem slr_cap {w : World} {a : Option Addr} {n c : Nat} {α : Type} {e : Elt α} {L : List α} (h : ReadR e w (.slice a n c) L) : n ≤ c ∧ c ≤ maxLen ∧ n = L.length := by
  obtain ⟨_, _, q, h1, h2, _⟩ := h; cases q; exact ⟨h1, h2, rfl⟩
theorem sli_cap {w : World} {a : Option Addr} {n c : Nat} {L : List Int} (h : ReadI w (.slice a n c) L) : n ≤ c ∧ c ≤ maxLen ∧ n = L.length := slr_cap (readI_R h)
def cutV (f : FnV) : FnV := ⟨⟨f.p.a, c10 f.p.n, f.p.c⟩, ⟨f.l.a, c10 f.l.n, f.l.c⟩, f.r, ⟨f.c.a, c100 f.c.n, f.c.c⟩⟩
theorem deep_cut {w : World} {v : FnV} {f : FnM} (h : DeepF w v f) : DeepF w (cutV v) (cutF f) := ⟨readI_c10 h.p, readI_c10 h.l, h.r, readN_c100 h.c⟩
/-- A function's cells, one by one. -/
theorem fn_cells {w : World} {b o : Nat} {L : List FnV} (h4 : ∀ k, (h : k < L.length) → ∀ j, j < fnE.size → w.cell? ⟨b, o + (k * fnE.size + j), none⟩ = (fnE.cells L[k])[j]?) (k : Nat) (hk : k < L.length) :
    w.cell? ⟨b, o + k * 4, none⟩ = some (.slice L[k].p.a L[k].p.n L[k].p.c) ∧ w.cell? ⟨b, o + k * 4 + 1, none⟩ = some (.slice L[k].l.a L[k].l.n L[k].l.c) ∧ w.cell? ⟨b, o + k * 4 + 2, none⟩ = some (.int .i64 L[k].r) ∧ w.cell? ⟨b, o + k * 4 + 3, none⟩ = some (.slice L[k].c.a L[k].c.n L[k].c.c) := by
  have h4' : ∀ (j : Nat), j < 4 → w.cell? ⟨b, o + k * 4 + j, none⟩ = (fnE.cells L[k])[j]? := fun j hj => by
    have := h4 k hk j hj
    rw [Nat.add_assoc]; exact this
  exact ⟨h4' 0 (by omega), h4' 1 (by omega), h4' 2 (by omega), h4' 3 (by omega)⟩
theorem b_gr0 {W w w' : World} {r : Option Nat} (h : Below W.heap.size W w) (hg : w.grownBy w' r) (hr : ∀ j, r = some j → W.heap.size ≤ j) : Below W.heap.size W w' := h.grown hg h.size hr
theorem wp_named {P : Program} {c : Code} {Q : Exit → Act → World → Prop} {a : Act} {w : World} (h : ∀ w1, w1 = w → Code.wp P c Q a w1) : Code.wp P c Q a w := h _ rfl
theorem post_named {P : Program} {fn : Func} {R : Ending → World → Prop} {e : Exit} {a : Act} {w : World} (h : ∀ w1, w1 = w → bodyPost P fn R e a w1) : bodyPost P fn R e a w := h _ rfl
theorem allF_cut {w : World} : ∀ {vs : List FnV} {fs : List FnM} (k : Nat), AllF w vs fs → AllF w ((vs.take k).map cutV) ((fs.take k).map cutF)
  | [], [], k, _ => by cases k <;> exact trivial
  | v :: vs, f :: fs, 0, _ => trivial
  | v :: vs, f :: fs, k + 1, h => ⟨deep_cut h.1, allF_cut k h.2⟩
  | [], _ :: _, _, h => h.elim
  | _ :: _, [], _, h => h.elim
/-- What Cut's variable holds. -/
def CutSt (W wr : World) (g : Nat) (u : Bool) (gl : Value) (m : Int) (L : List FnV) : Prop := ∃ v, OwnR fnE 35 wr (g + 1) v L ∧ Blk wr g [.bool u, gl, .int .i64 m, v] ∧ Below W.heap.size W wr
end Go.Proofs.Ytdmidnmciaediaa
