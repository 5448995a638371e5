/- Memory that grows while some blocks may turn ('GrowX'); append that tells where the new row lies. Over any program. No conditions beside those stated. -/
import Derived.Test.YtedmjlhgpdeafaaDoorRowN
import Derived.Deep.AppendLies
namespace Go.Proofs.YtedmjlhgpdeafaaDoor
open Go.RowKit
set_option linter.unusedVariables false
set_option linter.unusedSimpArgs false
/-- Of the older blocks those of X alone may have turned. -/
structure GrowX (w w' : World) (X : Nat → Prop) : Prop where
  os : w'.os = w.os
  tape : w'.tape = w.tape
  output : w'.output = w.output
  size : w.heap.size ≤ w'.heap.size
  block : ∀ k, k < w.heap.size → ¬ X k → w'.heap[k]? = w.heap[k]?
theorem gx_refl (w : World) (X : Nat → Prop) : GrowX w w X := ⟨rfl, rfl, rfl, Nat.le_refl _, fun _ _ _ => rfl⟩
theorem gx_gb {w w' : World} {r : Option Nat} {X : Nat → Prop} (h : w.grownBy w' r) (hr : ∀ k, r = some k → X k) : GrowX w w' X :=
  ⟨h.os, h.tape, h.output, h.size, fun k hk hx => h.block k hk (by intro e; exact hx (hr k e.symm))⟩
theorem gx_below {w w' : World} (h : Below w.heap.size w w') (X : Nat → Prop) : GrowX w w' X := ⟨h.os, h.tape, h.output, h.size, fun k hk _ => h.block k hk⟩
theorem gx_mono {w w' : World} {X Y : Nat → Prop} (h : GrowX w w' X) (hXY : ∀ k, k < w.heap.size → X k → Y k) : GrowX w w' Y := ⟨h.os, h.tape, h.output, h.size, fun k hk hy => h.block k hk (fun hx => hy (hXY k hk hx))⟩
theorem gx_trans {w w1 w2 : World} {X Y Z : Nat → Prop} (h : GrowX w w1 X) (h' : GrowX w1 w2 Y) (h1 : ∀ k, k < w.heap.size → X k → Z k) (h2 : ∀ k, k < w.heap.size → Y k → Z k) : GrowX w w2 Z :=
  ⟨h'.os.trans h.os, h'.tape.trans h.tape, h'.output.trans h.output, Nat.le_trans h.size h'.size, fun k hk hz => (h'.block k (Nat.lt_of_lt_of_le hk h.size) (fun hy => hz (h2 k hk hy))).trans (h.block k hk (fun hx => hz (h1 k hk hx)))⟩
theorem gx_call {w w1 w2 : World} {X : Nat → Prop} (h : GrowX w w1 X) (hb : Below w1.heap.size w1 w2) : GrowX w w2 X := gx_trans h (gx_below hb (fun _ => False)) (fun _ _ h => h) (fun _ _ h => h.elim)
theorem gx_pre {w w1 w2 : World} {X : Nat → Prop} (hb : Below w.heap.size w w1) (h : GrowX w1 w2 X) : GrowX w w2 X := gx_trans (gx_below hb (fun _ => False)) h (fun _ _ h => h.elim) (fun _ _ h => h)
theorem gx_set {w w1 : World} {X : Nat → Prop} (h : GrowX w w1 X) {p : Addr} (hp : w.heap.size ≤ p.block ∨ X p.block) (u : Value) : GrowX w (w1.setCell p u) X :=
  ⟨h.os, h.tape, h.output, by have := h.size; simpa using this, fun k hk hx => by
    rw [Below.heap_setCell _ _ _ _ (by rintro rfl; rcases hp with q | q; (exact absurd hk (by omega)); (exact hx q))]; exact h.block k hk hx⟩
theorem gx_alloc {w w1 : World} {X : Nat → Prop} (h : GrowX w w1 X) (o : Obj) : GrowX w (w1.alloc o) X := gx_call h (b_alloc (Below.refl _ _) o)
theorem gx_drew {w w1 : World} {X : Nat → Prop} (h : GrowX w w1 X) : GrowX w w1.drew X := ⟨h.os, h.tape, h.output, h.size, h.block⟩
theorem b_gx {W w w' : World} {X : Nat → Prop} (h : Below W.heap.size W w) (hg : GrowX w w' X) (hX : ∀ k, X k → W.heap.size ≤ k) : Below W.heap.size W w' :=
  ⟨hg.os.trans h.os, hg.tape.trans h.tape, hg.output.trans h.output, Nat.le_trans h.size hg.size, fun k hk => (hg.block k (Nat.lt_of_lt_of_le hk h.size) (fun hx => by have := hX k hx; omega)).trans (h.block k hk)⟩
theorem gx_gb_of {w w' : World} {X : Nat → Prop} {r : Option Nat} (hg : GrowX w w' X) (hX : ∀ k, k < w.heap.size → X k → r = some k) : w.grownBy w' r :=
  ⟨hg.os, hg.tape, hg.output, hg.size, fun k hk hn => hg.block k hk (fun hx => hn (hX k hk hx).symm)⟩
theorem blk_gx {w w' : World} {g : Nat} {vs : List Value} {X : Nat → Prop} (h : Blk w g vs) (hg : GrowX w w' X) (hx : ¬ X g) : Blk w' g vs :=
  ⟨Nat.lt_of_lt_of_le h.1 hg.size, fun i hi => (World.cell?_of_block (w := w) (hg.block _ h.1 hx)).trans (h.2.1 i hi), fun i => (World.frozen?_of_block (w := w) (hg.block _ h.1 hx)).trans (h.2.2 i)⟩
theorem tyB_gx {w w' : World} {b : Nat} {T : TypeId} {X : Nat → Prop} (h : tyB w b = some T) (hg : GrowX w w' X) (hx : ¬ X b) : tyB w' b = some T := by rw [tyB_block (hg.block b (tyB_lt h) hx)]; exact h
theorem cell_gx {w w' : World} {X : Nat → Prop} (hg : GrowX w w' X) {k : Nat} (hk : k < w.heap.size) (hx : ¬ X k) (o : Nat) : w'.cell? ⟨k, o, none⟩ = w.cell? ⟨k, o, none⟩ := World.cell?_of_block (w := w) (hg.block k hk hx)
section
variable {α : Type} {c : Elt α} {E : TypeId} {w w' : World} {B : Nat} {v : Value} {L M : List α} {X : Nat → Prop}
theorem readR_gx (h : ReadR c w v L) (hg : GrowX w w' X) (hx : ∀ k, v.ownBlock = some k → ¬ X k) : ReadR c w' v L :=
  readR_kept h (fun b hb hlt => hg.block b hlt (hx b hb)) hg.size
theorem ownR_gx (h : OwnR c E w B v L) (hg : GrowX w w' X) (hx : ∀ k, v.ownBlock = some k → ¬ X k) : OwnR c E w' B v L := by
  refine ⟨h.1, ?_⟩
  rcases h.2 with hn | ⟨g, cap, cur, rfl, hb, hgg, rest⟩
  · exact .inl hn
  · exact .inr ⟨g, cap, cur, rfl, hb, by rw [hg.block g (Array.getElem?_eq_some_iff.1 hgg).1 (hx g rfl)]; exact hgg, rest⟩
/-- Two that are of unlike types never share a block. -/
theorem ownR_ne {T : TypeId} {k : Nat} (h : OwnR c E w B v L) (hk : tyB w k = some T) (hT : E ≠ T) : ∀ j, v.ownBlock = some j → j ≠ k := fun j hj e => by
  subst e
  have := ownR_ty h j hj
  rw [hk] at this; injection this with this; exact hT this.symm
theorem ownR_ne2 {β : Type} {d : Elt β} {E' : TypeId} {B' : Nat} {v' : Value} {M' : List β} (h : OwnR c E w B v L) (h' : OwnR d E' w B' v' M') (hT : E ≠ E') : ∀ j k, v.ownBlock = some j → v'.ownBlock = some k → j ≠ k := fun j k hj hk => ownR_ne h (ownR_ty h' k hk) hT j hj
variable {P : Program} {T : TypeId} {bytes : Nat} {z : Value}
theorem row_one_at {x : α} : ∀ u ∈ c.row [x], u.oneCell' = true := row_mem c
/-- append(v, x): v the call's own, x a block of its own right ahead. -/
theorem wp_append1 (R : IsRow P T E c.size bytes z) {o : Oper} {a : Act} {K : Act → World → Prop} {Q : Exit → Act → World → Prop} (s x : Operand)
    (ho : o.op = .call { callee := .builtin .append, args := #[s, x], argTypes := #[T, T] })
    (hs : a.eval s = v) (hown : OwnR c E w B v L) (y : α) (b cp : Nat) (hx : a.eval x = .slice (some ⟨b, 0, none⟩) 1 cp) (hy : Blk w b (c.cells y))
    (hlen : (L.length + 1) * bytes ≤ 140737488355328) (hlen2 : L.length + 1 ≤ maxLen) (hB : B ≤ w.heap.size)
    (h : ∀ g cap w', OwnR c E w' B (.slice (some ⟨g, 0, none⟩) (L.length + 1) cap) (L ++ [y]) → w.grownBy w' v.ownBlock → (v.ownBlock = some g ∨ g = w.heap.size) → g < w'.heap.size → K (a.put o.dst (.slice (some ⟨g, 0, none⟩) (L.length + 1) cap)) w') : Oper.wp P o a w K Q := by
  obtain ⟨i, hi, hz, hs1, hb1⟩ := info_parts R.inf
  refine wp_append_lies w s x _ ho B E i _ c.size bytes R.und hi hz hs1 hb1 R.zs c.pos v L.length (c.row L) hs hown ⟨b, 0, none⟩ 1 cp (c.cells y) hx (by rw [c.len, Nat.one_mul]) (fun j u hj => ?_) (fun u hu => c.one y u hu) (by decide) hlen2 hlen hB _ rfl (fun g cap w' h1 h2 h3 h4 => ?_)
  · rw [Addr.add_lit, Nat.zero_add]
    obtain ⟨hlt, rfl⟩ := List.getElem?_eq_some_iff.1 hj
    exact hy.2.1 j hlt
  · refine h g cap w' ?_ h2 h3 h4
    unfold OwnR
    rw [row_append, row_one, List.length_append]
    exact h1
theorem append1 (R : IsRow P T E c.size bytes z) {ops : Array Oper} {rest : List Oper} {o : Oper} {a : Act} {Q : Exit → Act → World → Prop} (hgd : o.guard = none) (s x : Operand)
    (ho : o.op = .call { callee := .builtin .append, args := #[s, x], argTypes := #[T, T] })
    (hs : a.eval s = v) (hown : OwnR c E w B v L) (y : α) (b cp : Nat) (hx : a.eval x = .slice (some ⟨b, 0, none⟩) 1 cp) (hy : Blk w b (c.cells y))
    (hlen : (L.length + 1) * bytes ≤ 140737488355328) (hlen2 : L.length + 1 ≤ maxLen) (hB : B ≤ w.heap.size)
    (h : ∀ g cap w', OwnR c E w' B (.slice (some ⟨g, 0, none⟩) (L.length + 1) cap) (L ++ [y]) → w.grownBy w' v.ownBlock → (v.ownBlock = some g ∨ g = w.heap.size) → g < w'.heap.size → wpList P ops Q rest (a.put o.dst (.slice (some ⟨g, 0, none⟩) (L.length + 1) cap)) w') : wpList P ops Q (o :: rest) a w :=
  wpList_plain hgd fun _ hK => wp_append1 R s x ho hs hown y b cp hx hy hlen hlen2 hB fun g cap w' h1 h2 h3 h4 => hK _ _ (h g cap w' h1 h2 h3 h4)
theorem step_append1 (R : IsRow P T E c.size bytes z) {ops : Array Oper} {o : Oper} {a : Act} {K : Act → World → Prop} {Q : Exit → Act → World → Prop} {G : Prop} (hgd : o.guard = none) (s x : Operand)
    (ho : o.op = .call { callee := .builtin .append, args := #[s, x], argTypes := #[T, T] })
    (hs : a.eval s = v) (hown : OwnR c E w B v L) (y : α) (b cp : Nat) (hx : a.eval x = .slice (some ⟨b, 0, none⟩) 1 cp) (hy : Blk w b (c.cells y))
    (hlen : (L.length + 1) * bytes ≤ 140737488355328) (hlen2 : L.length + 1 ≤ maxLen) (hB : B ≤ w.heap.size)
    (h : ∀ g cap w', OwnR c E w' B (.slice (some ⟨g, 0, none⟩) (L.length + 1) cap) (L ++ [y]) → w.grownBy w' v.ownBlock → (v.ownBlock = some g ∨ g = w.heap.size) → g < w'.heap.size → K (a.put o.dst (.slice (some ⟨g, 0, none⟩) (L.length + 1) cap)) w') : if Region.wanted o (yielded ops a.tmps) = true then Oper.wp P o a w K Q else G := by
  rw [if_pos (by simp [Region.wanted, hgd])]
  exact wp_append1 R s x ho hs hown y b cp hx hy hlen hlen2 hB h
end
end Go.Proofs.YtedmjlhgpdeafaaDoor
