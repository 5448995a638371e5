/- Words that all proofs of this seat share: old memory kept ('Below'), and a region that draws its order whose callees may lay new blocks, walked once in the order of the text. No program in sight, no conditions. Words for memory that is written: one block may change ('grownBy'); cells behind stores. No program in sight, no conditions. A block of cells that is known whole: a struct's, or a made slice's. No program in sight, no conditions. -/
import Derived.WalkKit
import Derived.ProofKit
import Derived.Lib.Hide
import Derived.Handy
import Derived.BigQuiet
import Derived.StillTailTactics
import Derived.Deep.Cut
import Derived.OpenShut
import Derived.Deep.RegionHeld3
import Derived.Laws.AppendOwnNone
import Derived.Deep.AppendLies
import Derived.Laws.CopyOwn
import Derived.WalkSpells
import Derived.WalkLawsBesides
namespace Go.Proofs.YtedmjlhgpdeafaaDoor
section
open Go.RowKit
set_option linter.unusedVariables false
set_option linter.unusedSimpArgs false
theorem bcell {W w1 : World} (hb : Below W.heap.size W w1) : (∀ b o, b < W.heap.size → w1.cell? ⟨b, o, none⟩ = W.cell? ⟨b, o, none⟩) ∧ (∀ b o, b < W.heap.size → w1.frozen? ⟨b, o, none⟩ = W.frozen? ⟨b, o, none⟩) :=
  ⟨fun b o h => hb.cell (p := ⟨b, o, none⟩) h, fun b o h => hb.frozen (p := ⟨b, o, none⟩) h⟩
theorem bfrom {B : Nat} {W w1 w2 : World} (h : Below B W w1) (hb : Below w1.heap.size w1 w2) (hB : B ≤ W.heap.size) : Below B W w2 := h.trans (hb.mono (by have := h.size; omega))
/-- 'w' with new blocks behind it: 'x', if it is so; else 'w' itself. -/
noncomputable def over (w x : World) : World := open Classical in if Below w.heap.size w x then x else w
theorem over_below (w x : World) : Below w.heap.size w (over w x) := by
  unfold over; split
  · assumption
  · exact Below.refl _ _
theorem over_of {w x : World} (h : Below w.heap.size w x) : x = over w x := by unfold over; rw [if_pos h]
theorem over_cell (w x : World) (b o : Nat) (h : b < w.heap.size) : (over w x).cell? ⟨b, o, none⟩ = w.cell? ⟨b, o, none⟩ := (over_below w x).cell (p := ⟨b, o, none⟩) h
theorem over_frozen (w x : World) (b o : Nat) (h : b < w.heap.size) : (over w x).frozen? ⟨b, o, none⟩ = w.frozen? ⟨b, o, none⟩ := (over_below w x).frozen (p := ⟨b, o, none⟩) h
theorem over_size (w x : World) : w.heap.size ≤ (over w x).heap.size := (over_below w x).size
/-- The region's theorem at the class 'w with new blocks behind it'. -/
theorem wp_region_over_lit {P : Program} {id : Nat} {Q : Exit → Act → World → Prop} {a : Act} {w : World} {l : List Oper} (hm : P.follows .mixedOrders = true) (hB : Region.lexB .any l.toArray = true)
    (h : wpQuiet P l.toArray (fun w' => ∃ x, w' = over w x) (fun a' => ∀ w', (∃ x, w' = over w x) → Q .normal a' w') l a) : (Code.region id l.toArray true).wp P Q a w :=
  wp_region_quiet (C := fun w' => ∃ x, w' = over w x) hm hB ⟨_, over_of (show Below w.heap.size w w.drew from (Below.refl _ _).drew)⟩ (by simpa using h)
/-- A callee's contract at such a region. -/
theorem over_call {P : Program} {f : FuncId} {args : Array Value} {w x : World} {v : Value}
    (h : Calls P f args (over w x) fun e w' => e = .returned v ∧ Below (over w x).heap.size (over w x) w') : Calls P f args (over w x) fun e w'' => e = .returned v ∧ ∃ y, w'' = over w y :=
  h.mono fun _ w' ⟨he, hb⟩ => ⟨he, w', over_of (bfrom (over_below w x) hb (Nat.le_refl _))⟩
theorem over_call_same {P : Program} {f : FuncId} {args : Array Value} {w x : World} {v : Value}
    (h : Calls P f args (over w x) fun e w' => e = .returned v ∧ over w x = w') : Calls P f args (over w x) fun e w'' => e = .returned v ∧ ∃ y, w'' = over w y :=
  h.mono fun _ w' ⟨he, hb⟩ => ⟨he, x, hb.symm⟩
theorem b_alloc {W w : World} (h : Below W.heap.size W w) (o : Obj) : Below W.heap.size W (w.alloc o) := h.alloc h.size o
theorem b_drew {W w : World} (h : Below W.heap.size W w) : Below W.heap.size W w.drew := h.drew
theorem b_over {W w : World} (h : Below W.heap.size W w) (x : World) : Below W.heap.size W (over w x) := bfrom h (over_below w x) (Nat.le_refl _)
theorem b_call {W w1 w2 : World} (h : Below W.heap.size W w1) (hb : Below w1.heap.size w1 w2) : Below W.heap.size W w2 := bfrom h hb (Nat.le_refl _)
theorem b_set {W w : World} (h : Below W.heap.size W w) {p : Addr} (hp : W.heap.size ≤ p.block) (u : Value) : Below W.heap.size W (w.setCell p u) := h.setCell hp u
theorem over_elim {w w' : World} (h : ∃ x, w' = over w x) : Below w.heap.size w w' := by obtain ⟨x, rfl⟩ := h; exact over_below w x
theorem cap_le {n : Nat} (h : n ≤ maxLen) : n ≤ 9223372036854775807 := by unfold maxLen at h; omega
/-- The condition of a region that is held may grow on the way. -/
theorem wpAnyH_mono {P : Program} {md : Region.Mode} {ops : Array Oper} {Q : Exit → Act → World → Prop} {S S' : World → Prop} (h : ∀ w, S' w → S w) : ∀ (fuel : Nat) (listed : Array Bool) (a : Act) (w : World), wpAnyH P md ops Q S' fuel listed a w → wpAnyH P md ops Q S fuel listed a w
  | 0, _, _, _, H => H
  | fuel + 1, _, _, _, H => ⟨H.1, fun i hi => wpOp_mono (fun a' w' h' => ⟨h _ h'.1, wpAnyH_mono h fuel _ a' w' h'.2⟩) (H.2 i hi)⟩
theorem wpAnyH_switch {P : Program} {md : Region.Mode} {ops : Array Oper} {Q : Exit → Act → World → Prop} {S S' : World → Prop} {fuel : Nat} {listed : Array Bool} {a : Act} {w : World} (h : ∀ w, S' w → S w) (hS : S' w) (H : S' w → wpAnyH P md ops Q S' fuel listed a w) : wpAnyH P md ops Q S fuel listed a w :=
  wpAnyH_mono h _ _ _ _ (H hS)
/-- A mark in the goal: the number of the next operation. -/
def AtI (_ : Nat) (p : Prop) : Prop := p
theorem atI {p : Prop} (i : Nat) (h : AtI i p) : p := h
theorem atIo {p : Prop} {i : Nat} (h : p) : AtI i p := h
/-- Take the marked operation first, and mark the next one. -/
theorem takeN {P : Program} {ops : Array Oper} {Q : Exit → Act → World → Prop} {md : Region.Mode} {S : World → Prop} {i : Nat} {oi : Oper} {v : Value} {fuel : Nat} {listed : Array Bool} {a : Act} {w : World} (hi : ops[i]? = some oi)
    (hg : Region.wanted oi (yielded ops a.tmps) = true) (hv : ∀ w, S w → (execOp a.eval oi).run P w = .ok (.value v) w) (hS : S w)
    (h : AtI (i + 1) (wpAnyH P md ops Q S fuel (listed.setIfInBounds i true) (a.put oi.dst v) w))
    (hs : Region.noSelect ops = true := by kernel_rfl) (hf : Region.free md ops listed i = true := by kernel_rfl) (hr : (Region.ready md ops listed).contains i = true := by kernel_rfl)
    (hQ : ∀ c a w, Q (.panic c) (a.put oi.dst v) w → Q (.panic c) a w := by exact fun _ _ _ h => h) : AtI i (wpAnyH P md ops Q S (fuel + 1) listed a w) :=
  wpAnyH_take hi hs hf hr hQ (Or.inl ⟨hg, hv⟩) hS h
end
section
open Go.RowKit
set_option linter.unusedVariables false
set_option linter.unusedSimpArgs false
theorem gb_refl (w : World) (r : Option Nat) : w.grownBy w r := ⟨rfl, rfl, rfl, Nat.le_refl _, fun _ _ _ => rfl⟩
theorem gb_drew {W w : World} {r : Option Nat} (h : W.grownBy w r) : W.grownBy w.drew r := ⟨h.os, h.tape, h.output, h.size, h.block⟩
theorem gb_set {W w : World} {b : Nat} (h : W.grownBy w (some b)) (o : Nat) (s : Option Nat) (u : Value) : W.grownBy (w.setCell ⟨b, o, s⟩ u) (some b) :=
  ⟨h.os, h.tape, h.output, by have := h.size; simpa [World.setCell] using this, fun k hk hne => by
    rw [Below.heap_setCell _ _ _ _ (fun e => hne (by rw [e]))]; exact h.block k hk hne⟩
theorem gb_setnew {W w : World} {r : Option Nat} (h : W.grownBy w r) {a : Addr} (ha : W.heap.size ≤ a.block) (u : Value) : W.grownBy (w.setCell a u) r :=
  ⟨h.os, h.tape, h.output, by have := h.size; simpa [World.setCell] using this, fun k hk hne => by
    rw [Below.heap_setCell _ _ _ _ (by omega)]; exact h.block k hk hne⟩
theorem gb_alloc {W w : World} {r : Option Nat} (h : W.grownBy w r) (o : Obj) : W.grownBy (w.alloc o) r :=
  ⟨h.os, h.tape, h.output, by have := h.size; simp; omega, fun k hk hne => by
    rw [Below.heap_alloc _ _ _ (Nat.lt_of_lt_of_le hk h.size)]; exact h.block k hk hne⟩
theorem gb_trans {W w w' : World} {r : Option Nat} (h : W.grownBy w r) (h' : w.grownBy w' r) : W.grownBy w' r :=
  ⟨h'.os.trans h.os, h'.tape.trans h.tape, h'.output.trans h.output, Nat.le_trans h.size h'.size, fun k hk hne => (h'.block k (Nat.lt_of_lt_of_le hk h.size) hne).trans (h.block k hk hne)⟩
theorem gb_below {W w w' : World} {r : Option Nat} (h : W.grownBy w r) (h' : Below w.heap.size w w') : W.grownBy w' r :=
  ⟨h'.os.trans h.os, h'.tape.trans h.tape, h'.output.trans h.output, Nat.le_trans h.size h'.size, fun k hk hne => (h'.block k (Nat.lt_of_lt_of_le hk h.size)).trans (h.block k hk hne)⟩
theorem gb_of {W w : World} (h : Below W.heap.size W w) (r : Option Nat) : W.grownBy w r := ⟨h.os, h.tape, h.output, h.size, fun k hk _ => h.block k hk⟩
/-- A block that was new is written: of the older ones nothing turns. -/
theorem b_grown {W w w' : World} {b : Nat} (h : Below W.heap.size W w) (hg : w.grownBy w' (some b)) (hb : W.heap.size ≤ b) : Below W.heap.size W w' :=
  h.grown hg h.size (fun k e => by cases e; exact hb)
theorem gb_cell {w w' : World} {b : Nat} (h : w.grownBy w' (some b)) : (∀ k o, k < w.heap.size → k ≠ b → w'.cell? ⟨k, o, none⟩ = w.cell? ⟨k, o, none⟩) ∧ (∀ k o, k < w.heap.size → k ≠ b → w'.frozen? ⟨k, o, none⟩ = w.frozen? ⟨k, o, none⟩) :=
  ⟨fun k o hk hn => World.cell?_of_block (w := w) (h.block k hk (by simpa using hn)), fun k o hk hn => World.frozen?_of_block (w := w) (h.block k hk (by simpa using hn))⟩
theorem cell_set {w : World} {b o : Nat} {old : Value} (h : w.cell? ⟨b, o, none⟩ = some old) (v : Value) (o' : Nat) :
    (w.setCell ⟨b, o, none⟩ v).cell? ⟨b, o', none⟩ = if o' = o then some v else w.cell? ⟨b, o', none⟩ := by
  split
  · rename_i e; subst e; exact World.cell?_setCell_same _ _ _ h
  · rename_i e; exact World.cell?_setCell_other _ _ _ _ (fun h => e (by cases h; rfl))
theorem gb_drewN {W w : World} {r : Option Nat} (h : W.grownBy w r) (n : Nat) : W.grownBy (w.drewN n) r := ⟨h.os, h.tape, h.output, h.size, h.block⟩
theorem b_drewN {W w : World} (h : Below W.heap.size W w) (n : Nat) : Below W.heap.size W (w.drewN n) := ⟨h.os, h.tape, h.output, h.size, h.block⟩
theorem below_gb {W w w' : World} {r : Option Nat} (h : Below W.heap.size W w) (h' : w.grownBy w' r) : W.grownBy w' r :=
  ⟨h'.os.trans h.os, h'.tape.trans h.tape, h'.output.trans h.output, Nat.le_trans h.size h'.size, fun k hk hne => (h'.block k (Nat.lt_of_lt_of_le hk h.size) hne).trans (h.block k hk)⟩
end
section
open Go.RowKit
set_option linter.unusedVariables false
set_option linter.unusedSimpArgs false
/-- Block 'g' begins with these cells, and may be written. -/
def Blk (w : World) (g : Nat) (vs : List Value) : Prop := g < w.heap.size ∧ (∀ i, (h : i < vs.length) → w.cell? ⟨g, i, none⟩ = some vs[i]) ∧ ∀ i, w.frozen? ⟨g, i, none⟩ = false
theorem blk_new (w : World) (c : Array Value) (T : TypeId) : Blk (w.alloc (.cells c T)) w.heap.size c.toList := by
  refine ⟨by simp, fun i h => ?_, fun i => by simp⟩
  rw [World.cell?_alloc_new]
  rw [Array.getElem?_eq_getElem (by simpa using h)]; simp
theorem blk_below {w w1 : World} {g : Nat} {vs : List Value} (h : Blk w g vs) (hb : Below w.heap.size w w1) : Blk w1 g vs :=
  ⟨Nat.lt_of_lt_of_le h.1 hb.size, fun i hi => by rw [(bcell hb).1 _ _ h.1]; exact h.2.1 i hi, fun i => by rw [(bcell hb).2 _ _ h.1]; exact h.2.2 i⟩
theorem blk_alloc {w : World} {g : Nat} {vs : List Value} (h : Blk w g vs) (o : Obj) : Blk (w.alloc o) g vs := blk_below h (b_alloc (Below.refl _ _) o)
theorem blk_over {w : World} {g : Nat} {vs : List Value} (h : Blk w g vs) (x : World) : Blk (over w x) g vs := blk_below h (over_below w x)
theorem blk_drew {w : World} {g : Nat} {vs : List Value} (h : Blk w g vs) : Blk w.drew g vs := h
theorem blk_drewN {w : World} {g : Nat} {vs : List Value} (h : Blk w g vs) (n : Nat) : Blk (w.drewN n) g vs := h
theorem blk_born {w w1 : World} {c : Array Value} {T : TypeId} (hb : Below (w.alloc (.cells c T)).heap.size (w.alloc (.cells c T)) w1) : Blk w1 w.heap.size c.toList := blk_below (blk_new w c T) hb
theorem blk_set {w : World} {g : Nat} {vs : List Value} (h : Blk w g vs) (i : Nat) (u : Value) : Blk (w.setCell ⟨g, i, none⟩ u) g (vs.set i u) := by
  refine ⟨by simpa using h.1, fun j hj => ?_, fun j => by rw [World.frozen?_setCell]; exact h.2.2 j⟩
  have hj' : j < vs.length := by simpa using hj
  by_cases e : j = i
  · subst e
    rw [World.cell?_setCell_same _ _ _ (h.2.1 j hj')]; simp
  · rw [World.cell?_setCell_other _ _ _ _ (fun h => e (by cases h; rfl)), h.2.1 j hj']
    rw [List.getElem_set_ne (fun h => e h.symm)]
theorem blk_other {w : World} {g : Nat} {vs : List Value} (h : Blk w g vs) {p : Addr} (hp : p.block ≠ g) (u : Value) : Blk (w.setCell p u) g vs := by
  refine ⟨by simpa using h.1, fun j hj => ?_, fun j => by rw [World.frozen?_setCell]; exact h.2.2 j⟩
  rw [World.cell?_setCell_other _ _ _ _ (fun e => hp (by rw [e]))]; exact h.2.1 j hj
theorem blk_grown {w w1 : World} {g : Nat} {vs : List Value} {r : Option Nat} (h : Blk w g vs) (hg : w.grownBy w1 r) (hne : some g ≠ r) : Blk w1 g vs :=
  ⟨Nat.lt_of_lt_of_le h.1 hg.size, fun i hi => (World.cell?_of_block (w := w) (hg.block _ h.1 hne)).trans (h.2.1 i hi), fun i => (World.frozen?_of_block (w := w) (hg.block _ h.1 hne)).trans (h.2.2 i)⟩
theorem blk1 {w : World} {g : Nat} {u0 : Value} (h : Blk w g [u0]) : w.cell? ⟨g, 0, none⟩ = some u0 ∧ ∀ i, w.frozen? ⟨g, i, none⟩ = false := ⟨h.2.1 0 (by simp), h.2.2⟩
theorem blk2 {w : World} {g : Nat} {u0 u1 : Value} (h : Blk w g [u0, u1]) : w.cell? ⟨g, 0, none⟩ = some u0 ∧ w.cell? ⟨g, 1, none⟩ = some u1 ∧ ∀ i, w.frozen? ⟨g, i, none⟩ = false := ⟨h.2.1 0 (by simp), h.2.1 1 (by simp), h.2.2⟩
theorem blk3 {w : World} {g : Nat} {u0 u1 u2 : Value} (h : Blk w g [u0, u1, u2]) : w.cell? ⟨g, 0, none⟩ = some u0 ∧ w.cell? ⟨g, 1, none⟩ = some u1 ∧ w.cell? ⟨g, 2, none⟩ = some u2 ∧ ∀ i, w.frozen? ⟨g, i, none⟩ = false := ⟨h.2.1 0 (by simp), h.2.1 1 (by simp), h.2.1 2 (by simp), h.2.2⟩
theorem blk4 {w : World} {g : Nat} {u0 u1 u2 u3 : Value} (h : Blk w g [u0, u1, u2, u3]) : w.cell? ⟨g, 0, none⟩ = some u0 ∧ w.cell? ⟨g, 1, none⟩ = some u1 ∧ w.cell? ⟨g, 2, none⟩ = some u2 ∧ w.cell? ⟨g, 3, none⟩ = some u3 ∧ ∀ i, w.frozen? ⟨g, i, none⟩ = false := ⟨h.2.1 0 (by simp), h.2.1 1 (by simp), h.2.1 2 (by simp), h.2.1 3 (by simp), h.2.2⟩
end
end Go.Proofs.YtedmjlhgpdeafaaDoor
