/- append onto an empty row of the call's own: nothing older turns. Over any program. No conditions beside those stated. -/
import Derived.Test.YtedmjlhgpdeafaaDoorRowW
import Derived.Deep.RegionLawGrows
namespace Go.Proofs.YtedmjlhgpdeafaaDoor
open Go.RowKit
set_option linter.unusedVariables false
set_option linter.unusedSimpArgs false
section
variable {α : Type} {c : Elt α} {P : Program} {T E : TypeId} {bytes : Nat} {z : Value}
theorem below_none {w w' : World} (h : w.grownBy w' none) : Below w.heap.size w w' := ⟨h.os, h.tape, h.output, h.size, fun k hk => h.block k hk (by intro e; cases e)⟩
theorem run_append_nil0 (R : IsRow P T E c.size bytes z) (w : World) (ty : TypeId) (g cap : Nat) :
    (Builtin.append_ #[T, T] ty #[.slice (some ⟨g, 0, none⟩) 0 0, .slice none 0 cap]).run P w = .ok (.slice (some ⟨g, 0, none⟩) 0 0) w := by
  obtain ⟨i, hi, hz, hs1, hb1⟩ := info_parts R.inf
  simp [Builtin.append_, run_underlying R.und, sizeOf, typeInfo, hi, Builtin.lenOf, Builtin.firstCells, storeCells]
/-- Of which type a block's cells are. -/
def tyB (w : World) (b : Nat) : Option TypeId := match w.heap[b]? with
  | some (.cells _ T _) => some T
  | _ => none
theorem tyB_block {w w' : World} {b : Nat} (h : w'.heap[b]? = w.heap[b]?) : tyB w' b = tyB w b := by unfold tyB; rw [h]
theorem tyB_below {w w' : World} {b : Nat} (hb : Below w.heap.size w w') (hlt : b < w.heap.size) : tyB w' b = tyB w b := tyB_block (hb.block b hlt)
theorem tyB_new (w : World) (cs : Array Value) (T : TypeId) : tyB (w.alloc (.cells cs T)) w.heap.size = some T := by unfold tyB; rw [(MapKept.heap_alloc w _).1]
theorem tyB_new2 {w : World} {cs : Array Value} {T : TypeId} {k : Nat} (hk : k = w.heap.size) : tyB (w.alloc (.cells cs T)) k = some T := by rw [hk]; exact tyB_new w cs T
theorem tyB_set (w : World) (p : Addr) (u : Value) (b : Nat) : tyB (w.setCell p u) b = tyB w b := by
  by_cases e : p.block = b
  · subst e
    unfold tyB
    simp only [World.setCell, Array.getElem?_modify, if_true]
    cases hh : w.heap[p.block]? with
    | none => rfl
    | some o => cases o <;> simp
  · exact tyB_block (Below.heap_setCell _ _ _ _ (by omega))
theorem tyB_drew (w : World) (b : Nat) : tyB w.drew b = tyB w b := rfl
theorem tyB_alloc {w : World} {b : Nat} {T : TypeId} (h : tyB w b = some T) (o : Obj) : tyB (w.alloc o) b = some T := by
  have hlt : b < w.heap.size := by
    rcases Nat.lt_or_ge b w.heap.size with q | q
    · exact q
    · unfold tyB at h; rw [Array.getElem?_eq_none q] at h; cases h
  rw [tyB_below (b_alloc (Below.refl _ _) o) hlt]; exact h
theorem tyB_lt {w : World} {b : Nat} {T : TypeId} (h : tyB w b = some T) : b < w.heap.size := by
  rcases Nat.lt_or_ge b w.heap.size with q | q
  · exact q
  · unfold tyB at h; rw [Array.getElem?_eq_none q] at h; cases h
theorem tyB_call {w w' : World} {b : Nat} {T : TypeId} (h : tyB w b = some T) (hb : Below w.heap.size w w') : tyB w' b = some T := by rw [tyB_below hb (tyB_lt h)]; exact h
theorem tyB_grown {w w' : World} {b : Nat} {T : TypeId} {r : Option Nat} (h : tyB w b = some T) (hg : w.grownBy w' r) (hn : some b ≠ r) : tyB w' b = some T := by rw [tyB_block (hg.block b (tyB_lt h) hn)]; exact h
theorem ownR_ty {w : World} {B : Nat} {v : Value} {L : List α} (h : OwnR c E w B v L) : ∀ k, v.ownBlock = some k → tyB w k = some E := fun k hk => by
  rcases h.2 with ⟨rfl, _⟩ | ⟨g, cap, cur, rfl, _, hh, _⟩
  · cases hk
  · have e : g = k := by have e1 : some g = some k := hk; injection e1
    subst e
    unfold tyB; rw [hh]
/-- What such an append makes. -/
def NewRow (c : Elt α) (E : TypeId) (w w' : World) (v : Value) (M : List α) : Prop := ReadR c w' v M ∧ (∃ k cap, v = .slice (some ⟨k, 0, none⟩) M.length cap ∧ (M = [] ∨ (w.heap.size ≤ k ∧ tyB w' k = some E))) ∧ Below w.heap.size w w'
/-- A store into an older block leaves it. -/
theorem newRow_set {w : World} {k cap B : Nat} {M : List α} (h : ReadR c w (.slice (some ⟨k, 0, none⟩) M.length cap) M) (hk : M = [] ∨ B ≤ k) {p : Addr} (hp : p.block < B) (u : Value) : ReadR c (w.setCell p u) (.slice (some ⟨k, 0, none⟩) M.length cap) M := by
  rcases hk with rfl | hk
  · obtain ⟨a, c', e, h1, h2, h3, h4⟩ := h
    exact ⟨a, c', e, h1, h2, h3, fun hp => by simp at hp⟩
  · refine readR_kept h (fun b hb hlt => ?_) (by simp)
    have e : b = k := by have e1 : some b = some k := hb.symm; injection e1
    subst e
    exact Below.heap_setCell _ _ _ _ (by omega)
theorem wp_appendNew (R : IsRow P T E c.size bytes z) {o : Oper} {a : Act} {K : Act → World → Prop} {Q : Exit → Act → World → Prop} {w : World} (s x : Operand)
    (ho : o.op = .call { callee := .builtin .append, args := #[s, x], argTypes := #[T, T] }) (g : Nat) (hs : a.eval s = .slice (some ⟨g, 0, none⟩) 0 0)
    (u : Value) (M : List α) (hx : a.eval x = u) (hr : ReadR c w u M) (hlen : M.length * bytes ≤ 140737488355328) (hlen2 : M.length ≤ maxLen)
    (h : ∀ v' w', NewRow c E w w' v' M → K (a.put o.dst v') w') : Oper.wp P o a w K Q := by
  obtain ⟨i, hi, hz, hs1, hb1⟩ := info_parts R.inf
  obtain ⟨a', cap, rfl, h1, h2, h3, h4⟩ := hr
  have h0 : ∀ v, M = [] → (Builtin.append_ #[T, T] o.type #[.slice (some ⟨g, 0, none⟩) 0 0, v]).run P w = .ok (.slice (some ⟨g, 0, none⟩) 0 0) w → a.eval x = v → Oper.wp P o a w K Q := by
    intro v hM hrun hv
    subst hM
    unfold Oper.wp
    simp [execOp, ho, resolve, invoke, builtin, hs, hv, hrun, Result.andThen]
    exact h _ w ⟨⟨some ⟨g, 0, none⟩, 0, rfl, Nat.le_refl _, Nat.zero_le _, (fun h => by cases h), fun hp => by simp at hp⟩, ⟨g, 0, rfl, Or.inl rfl⟩, Below.refl _ _⟩
  rcases Nat.eq_zero_or_pos M.length with q | q
  · have hM : M = [] := List.eq_nil_of_length_eq_zero q
    cases a' with
    | none => exact h0 _ hM (by rw [hM]; exact run_append_nil0 R w _ g cap) hx
    | some ad => exact h0 _ hM (by rw [hM]; exact run_append_zero R w _ g ad cap) hx
  · obtain ⟨b, off, rfl, _, h6⟩ := h4 q
    obtain ⟨v', w', hrun, r1, r2⟩ := run_append_arg_grows (P := P) w T o.type E i z c.size bytes R.und hi hz hs1 hb1 R.zs c.pos ⟨g, 0, none⟩ 0 0 [] (by simp) (fun j u hj => by simp at hj) ⟨b, off, none⟩ M.length cap (c.row M) (row_length c M) (fun j u hj => by
      have hlt : j < M.length * c.size := by
        rcases Nat.lt_or_ge j (M.length * c.size) with q | q
        · exact q
        · rw [List.getElem?_eq_none (by rw [row_length]; exact q)] at hj; cases hj
      have hp := c.pos
      have e : j / c.size * c.size + j % c.size = j := by rw [Nat.mul_comm]; exact Nat.div_add_mod j c.size
      have hm := Nat.mod_lt j hp
      have hk : j / c.size < M.length := row_split c hp (j := j % c.size) (by rw [e]; exact hlt) hm
      have q := h6 _ hk _ hm
      rw [← row_at c M _ hk _ hm, e] at q
      rw [Addr.add_lit, q, hj]) (by omega) (by omega) (by rw [Nat.zero_add]; exact hlen)
    unfold Oper.wp
    simp [execOp, ho, resolve, invoke, builtin, hs, hx, hrun, Result.andThen]
    have own : OwnR c E w' w.heap.size v' M := by
      unfold OwnR
      simpa using r1
    obtain ⟨k, cp, hv, hk, _⟩ := ownR_form own q
    exact h v' w' ⟨ownR_read own, ⟨k, cp, hv, Or.inr ⟨hk, ownR_ty own k (by rw [hv]; rfl)⟩⟩, below_none r2⟩
theorem appendNew (R : IsRow P T E c.size bytes z) {ops : Array Oper} {rest : List Oper} {o : Oper} {a : Act} {Q : Exit → Act → World → Prop} {w : World} (hgd : o.guard = none) (s x : Operand)
    (ho : o.op = .call { callee := .builtin .append, args := #[s, x], argTypes := #[T, T] }) (g : Nat) (hs : a.eval s = .slice (some ⟨g, 0, none⟩) 0 0)
    (u : Value) (M : List α) (hx : a.eval x = u) (hr : ReadR c w u M) (hlen : M.length * bytes ≤ 140737488355328) (hlen2 : M.length ≤ maxLen)
    (h : ∀ v' w', NewRow c E w w' v' M → wpList P ops Q rest (a.put o.dst v') w') : wpList P ops Q (o :: rest) a w :=
  wpList_plain hgd fun _ hK => wp_appendNew R s x ho g hs u M hx hr hlen hlen2 fun v' w' h1 => hK _ _ (h v' w' h1)
theorem step_appendNew (R : IsRow P T E c.size bytes z) {ops : Array Oper} {o : Oper} {a : Act} {K : Act → World → Prop} {Q : Exit → Act → World → Prop} {G : Prop} {w : World} (hgd : o.guard = none) (s x : Operand)
    (ho : o.op = .call { callee := .builtin .append, args := #[s, x], argTypes := #[T, T] }) (g : Nat) (hs : a.eval s = .slice (some ⟨g, 0, none⟩) 0 0)
    (u : Value) (M : List α) (hx : a.eval x = u) (hr : ReadR c w u M) (hlen : M.length * bytes ≤ 140737488355328) (hlen2 : M.length ≤ maxLen)
    (h : ∀ v' w', NewRow c E w w' v' M → K (a.put o.dst v') w') : if Region.wanted o (yielded ops a.tmps) = true then Oper.wp P o a w K Q else G := by
  rw [if_pos (by simp [Region.wanted, hgd])]
  exact wp_appendNew R s x ho g hs u M hx hr hlen hlen2 h
end
end Go.Proofs.YtedmjlhgpdeafaaDoor
