/- Layer 25: programs that a call has made: what is of unlike types never shares a block. No conditions beside those stated. -/
import Derived.Test.YtedmjlhgpdeafaaDoorQCut
namespace Go.Proofs.YtedmjlhgpdeafaaDoor
open Go.RowKit
set_option linter.unusedVariables false
set_option linter.unusedSimpArgs false
/-- A slice that is empty, or lies at the head of a block of that type. -/
def slOk (w : World) (E : TypeId) (a : Option Addr) (n : Nat) : Prop := n = 0 ∨ ∃ k, a = some ⟨k, 0, none⟩ ∧ tyB w k = some E
theorem slOk_keep {w w' : World} {E : TypeId} {a : Option Addr} {n : Nat} (h : slOk w E a n) (hk : ∀ k, tyB w k = some E → tyB w' k = some E) : slOk w' E a n := by
  rcases h with h | ⟨k, h1, h2⟩
  · exact Or.inl h
  · exact Or.inr ⟨k, h1, hk k h2⟩
/-- What reads, and lies apart from what is written, reads. -/
theorem readR_apart {α : Type} {c : Elt α} {w w' : World} {E : TypeId} {a : Option Addr} {n cap : Nat} {xs : List α} (h : ReadR c w (.slice a n cap) xs) (ho : slOk w E a n) (hs : w.heap.size ≤ w'.heap.size) (hk : ∀ k, tyB w k = some E → w'.heap[k]? = w.heap[k]?) : ReadR c w' (.slice a n cap) xs := by
  rcases ho with hn | ⟨k, rfl, hty⟩
  · obtain ⟨a', c', e, h1, h2, h3, h4⟩ := h
    cases e
    exact ⟨a, cap, rfl, h1, h2, h3, fun hp => by omega⟩
  · refine readR_kept h (fun b hb _ => ?_) hs
    have e : b = k := by have e1 : some b = some k := hb.symm; injection e1
    subst e
    exact hk b hty
def INTT : TypeId := 3
def INST : TypeId := 45
/-- A function's slices are the call's own. -/
def FnT (w : World) (f : FnV) : Prop := slOk w INTT f.p.a f.p.n ∧ slOk w INTT f.l.a f.l.n ∧ slOk w INST f.c.a f.c.n
/-- What changes nothing of what is of those two types. -/
def KeepT (w w' : World) : Prop := w.heap.size ≤ w'.heap.size ∧ ∀ k, (tyB w k = some INTT ∨ tyB w k = some INST) → w'.heap[k]? = w.heap[k]?
theorem keepT_below {w w' : World} (hb : Below w.heap.size w w') : KeepT w w' := ⟨hb.size, fun k hk => hb.block k (by rcases hk with h | h <;> exact tyB_lt h)⟩
theorem keepT_set {w : World} {p : Addr} {X : TypeId} (hX : tyB w p.block = some X) (h1 : X ≠ INTT) (h2 : X ≠ INST) (u : Value) : KeepT w (w.setCell p u) := ⟨by simp, fun k hk => by
  refine Below.heap_setCell _ _ _ _ (fun e => ?_)
  subst e
  rcases hk with h | h <;> rw [hX] at h <;> injection h with h
  · exact h1 h
  · exact h2 h⟩
theorem keepT_grown {w w' : World} {r : Option Nat} (hg : w.grownBy w' r) (h : ∀ j, r = some j → ∃ X, tyB w j = some X ∧ X ≠ INTT ∧ X ≠ INST) : KeepT w w' := ⟨hg.size, fun k hk => by
  refine hg.block k (by rcases hk with h | h <;> exact tyB_lt h) (fun e => ?_)
  obtain ⟨X, hX, h1, h2⟩ := h k e.symm
  rcases hk with h | h <;> rw [hX] at h <;> injection h with h
  · exact h1 h
  · exact h2 h⟩
theorem keepT_trans {a b c : World} (h : KeepT a b) (h' : KeepT b c) : KeepT a c := ⟨Nat.le_trans h.1 h'.1, fun k hk => by
  rw [h'.2 k (by rcases hk with q | q; exact Or.inl (by rw [tyB_block (h.2 k (Or.inl q))]; exact q); exact Or.inr (by rw [tyB_block (h.2 k (Or.inr q))]; exact q)), h.2 k hk]⟩
theorem keepT_ty {w w' : World} (h : KeepT w w') {E : TypeId} (hE : E = INTT ∨ E = INST) (k : Nat) (hk : tyB w k = some E) : tyB w' k = some E := by
  rw [tyB_block (h.2 k (by rcases hE with rfl | rfl; exact Or.inl hk; exact Or.inr hk))]; exact hk
theorem fnT_keep {w w' : World} {f : FnV} (h : KeepT w w') (ht : FnT w f) : FnT w' f := ⟨slOk_keep ht.1 (keepT_ty h (Or.inl rfl)), slOk_keep ht.2.1 (keepT_ty h (Or.inl rfl)), slOk_keep ht.2.2 (keepT_ty h (Or.inr rfl))⟩
theorem readI_keep {w w' : World} {a : Option Addr} {n cap : Nat} {xs : List Int} (h : KeepT w w') (ho : slOk w INTT a n) (hr : ReadI w (.slice a n cap) xs) : ReadI w' (.slice a n cap) xs := readR_I (readR_apart (readI_R hr) ho h.1 (fun k hk => h.2 k (Or.inl hk)))
theorem deepF_keep {w w' : World} {v : FnV} {f : FnM} (h : KeepT w w') (ht : FnT w v) (hd : DeepF w v f) : DeepF w' v f :=
  ⟨readI_keep h ht.1 hd.p, readI_keep h ht.2.1 hd.l, hd.r, readR_apart hd.c ht.2.2 h.1 (fun k hk => h.2 k (Or.inr hk))⟩
/-- Functions that a call has made. -/
def AllT (w : World) : List FnV → List FnM → Prop
  | [], [] => True
  | v :: vs, f :: fs => (DeepF w v f ∧ FnT w v) ∧ AllT w vs fs
  | _, _ => False
theorem allT_keep {w w' : World} (h : KeepT w w') : ∀ {vs : List FnV} {fs : List FnM}, AllT w vs fs → AllT w' vs fs
  | [], [], _ => trivial
  | v :: vs, f :: fs, q => ⟨⟨deepF_keep h q.1.2 q.1.1, fnT_keep h q.1.2⟩, allT_keep h q.2⟩
  | [], _ :: _, q => q.elim
  | _ :: _, [], q => q.elim
theorem allT_snoc {w : World} {v : FnV} {f : FnM} (hd : DeepF w v f) (ht : FnT w v) : ∀ {vs : List FnV} {fs : List FnM}, AllT w vs fs → AllT w (vs ++ [v]) (fs ++ [f])
  | [], [], _ => ⟨⟨hd, ht⟩, trivial⟩
  | v :: vs, f :: fs, h => ⟨h.1, allT_snoc hd ht h.2⟩
  | [], _ :: _, h => h.elim
  | _ :: _, [], h => h.elim
theorem allT_F {w : World} : ∀ {vs : List FnV} {fs : List FnM}, AllT w vs fs → AllF w vs fs
  | [], [], _ => trivial
  | v :: vs, f :: fs, q => ⟨q.1.1, allT_F q.2⟩
  | [], _ :: _, q => q.elim
  | _ :: _, [], q => q.elim
theorem slOk_new {α : Type} {E : TypeId} {w' : World} {k B : Nat} {M : List α} (hk : M = [] ∨ (B ≤ k ∧ tyB w' k = some E)) : slOk w' E (some ⟨k, 0, none⟩) M.length := by
  rcases hk with rfl | ⟨_, h⟩
  · exact Or.inl rfl
  · exact Or.inr ⟨k, rfl, h⟩
end Go.Proofs.YtedmjlhgpdeafaaDoor
