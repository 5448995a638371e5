/- Layer 25's Ours: a program as the program's own. Conditions: the program reads as lists, and is not too great. -/
import Derived.Test.YtdmidnmciaediaaWTypP
import Derived.Test.YtdmidnmciaediaaWBytes
namespace Go.Proofs.Ytdmidnmciaediaa
open Go.RowKit
set_option linter.unusedVariables false
set_option linter.unusedSimpArgs false
attribute [local go_sem] over_cell over_frozen
theorem rowPFn : IsRow Try.prog 29 122 4 80 (.agg #[.slice none 0 0, .slice none 0 0, .int .i64 0, .slice none 0 0]) := ⟨Try.underlying29, by kernel_rfl, by rfl⟩
theorem rowPIn : IsRow Try.prog 120 123 4 32 (.agg #[.int .i64 0, .int .u64 0, .int .i64 0, .int .i64 0]) := ⟨Try.underlying120, by kernel_rfl, by rfl⟩
theorem blk_new2 {w : World} {c : Array Value} {T : TypeId} {k : Nat} (hk : k = w.heap.size) : Blk (w.alloc (.cells c T)) k c.toList := by rw [hk]; exact blk_new w c T
theorem wpAnyH_named {P : Program} {md : Region.Mode} {ops : Array Oper} {Q : Exit → Act → World → Prop} {S : World → Prop} {fuel : Nat} {listed : Array Bool} {a : Act} {w : World} (h : ∀ w1, w1 = w → wpAnyH P md ops Q S fuel listed a w1) : wpAnyH P md ops Q S fuel listed a w := h _ rfl
def FUNT : TypeId := 122
def PROT : TypeId := 31
/-- A function that is being made. -/
def FunSt (W5 wr : World) (x : Nat) (ps ls : List Int) (r : Int) (code : List In4) : Prop := ∃ (p l : Sl) (v : Value), ReadI wr (.slice p.a p.n p.c) ps ∧ ReadI wr (.slice l.a l.n l.c) ls ∧ slOk wr INTT p.a p.n ∧ slOk wr INTT l.a l.n ∧ OwnR inE INST wr (x + 1) v code ∧ Blk wr x [.slice p.a p.n p.c, .slice l.a l.n l.c, .int .i64 r, v] ∧ tyB wr x = some FUNT ∧ Below W5.heap.size W5 wr
/-- What changes nothing of what is of integers. -/
def KeepI (w w' : World) : Prop := w.heap.size ≤ w'.heap.size ∧ ∀ k, tyB w k = some INTT → w'.heap[k]? = w.heap[k]?
theorem keepI_below {w w' : World} (hb : Below w.heap.size w w') : KeepI w w' := ⟨hb.size, fun k hk => hb.block k (tyB_lt hk)⟩
theorem keepI_set {w : World} {p : Addr} {X : TypeId} (hX : tyB w p.block = some X) (h1 : X ≠ INTT) (u : Value) : KeepI w (w.setCell p u) := ⟨by simp, fun k hk => by
  refine Below.heap_setCell _ _ _ _ (fun e => ?_)
  subst e
  rw [hX] at hk; injection hk with h; exact h1 h⟩
theorem keepI_grown {w w' : World} {r : Option Nat} (hg : w.grownBy w' r) (h : ∀ j, r = some j → ∃ X, tyB w j = some X ∧ X ≠ INTT) : KeepI w w' := ⟨hg.size, fun k hk => by
  refine hg.block k (tyB_lt hk) (fun e => ?_)
  obtain ⟨X, hX, h1⟩ := h k e.symm
  rw [hX] at hk; injection hk with h; exact h1 h⟩
theorem keepI_ty {w w' : World} (h : KeepI w w') (k : Nat) (hk : tyB w k = some INTT) : tyB w' k = some INTT := by
  rw [tyB_block (h.2 k hk)]; exact hk
theorem keepI_trans {a b c : World} (h : KeepI a b) (h' : KeepI b c) : KeepI a c := ⟨Nat.le_trans h.1 h'.1, fun k hk => by rw [h'.2 k (keepI_ty h k hk), h.2 k hk]⟩
theorem readI_keepI {w w' : World} {a : Option Addr} {n cap : Nat} {xs : List Int} (h : KeepI w w') (ho : slOk w INTT a n) (hr : ReadI w (.slice a n cap) xs) : ReadI w' (.slice a n cap) xs := readR_I (readR_apart (readI_R hr) ho h.1 (fun k hk => h.2 k hk))
/-- An instruction's cells, one by one. -/
theorem in_cells {w : World} {b o : Nat} {L : List In4} (h4 : ∀ k, (h : k < L.length) → ∀ j, j < inE.size → w.cell? ⟨b, o + (k * inE.size + j), none⟩ = (inE.cells L[k])[j]?) (k : Nat) (hk : k < L.length) :
    w.cell? ⟨b, o + k * 4, none⟩ = some (.int .i64 L[k].op) ∧ w.cell? ⟨b, o + k * 4 + 1, none⟩ = some (.int .u64 L[k].x) ∧ w.cell? ⟨b, o + k * 4 + 2, none⟩ = some (.int .i64 L[k].a) ∧ w.cell? ⟨b, o + k * 4 + 3, none⟩ = some (.int .i64 L[k].b) := by
  have h4' : ∀ (j : Nat), j < 4 → w.cell? ⟨b, o + k * 4 + j, none⟩ = (inE.cells L[k])[j]? := fun j hj => by
    have := h4 k hk j hj
    rw [Nat.add_assoc]; exact this
  exact ⟨h4' 0 (by omega), h4' 1 (by omega), h4' 2 (by omega), h4' 3 (by omega)⟩
theorem ownR_slOk {α : Type} {c : Elt α} {E : TypeId} {w : World} {B : Nat} {a : Option Addr} {n cap : Nat} {L : List α} (h : OwnR c E w B (.slice a n cap) L) : slOk w E a n := by
  have ht := ownR_ty h
  rcases h.2 with ⟨e, _⟩ | ⟨g, cap, cur, e, _⟩
  · cases e; exact Or.inl rfl
  · cases e; exact Or.inr ⟨g, rfl, ht g rfl⟩
end Go.Proofs.Ytdmidnmciaediaa
