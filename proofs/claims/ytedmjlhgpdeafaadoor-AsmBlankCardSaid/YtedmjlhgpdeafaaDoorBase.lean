/- Words that all proofs of this seat share: old memory kept ('Below'), and a region that draws its order whose callees may lay new blocks, walked once in the order of the text. No program in sight, no conditions. -/
import Derived.WalkKit
import Derived.ProofKit
import Derived.Lib.Hide
import Derived.Handy
import Derived.BigQuiet
import Derived.StillTailTactics
import Derived.Deep.Cut
import Derived.OpenShut
import Derived.Deep.RegionHeld3
import Derived.Laws.AppendOwnNone
import Derived.Deep.AppendLies
import Derived.Laws.CopyOwn
import Derived.WalkSpells
import Derived.WalkLawsBesides
namespace Go.Proofs.YtedmjlhgpdeafaaDoor
open Go.RowKit
set_option linter.unusedVariables false
set_option linter.unusedSimpArgs false
theorem bcell {W w1 : World} (hb : Below W.heap.size W w1) : (∀ b o, b < W.heap.size → w1.cell? ⟨b, o, none⟩ = W.cell? ⟨b, o, none⟩) ∧ (∀ b o, b < W.heap.size → w1.frozen? ⟨b, o, none⟩ = W.frozen? ⟨b, o, none⟩) :=
  ⟨fun b o h => hb.cell (p := ⟨b, o, none⟩) h, fun b o h => hb.frozen (p := ⟨b, o, none⟩) h⟩
theorem bfrom {B : Nat} {W w1 w2 : World} (h : Below B W w1) (hb : Below w1.heap.size w1 w2) (hB : B ≤ W.heap.size) : Below B W w2 := h.trans (hb.mono (by have := h.size; omega))
/-- 'w' with new blocks behind it: 'x', if it is so; else 'w' itself. -/
noncomputable def over (w x : World) : World := open Classical in if Below w.heap.size w x then x else w
theorem over_below (w x : World) : Below w.heap.size w (over w x) := by
  unfold over; split
  · assumption
  · exact Below.refl _ _
theorem over_of {w x : World} (h : Below w.heap.size w x) : x = over w x := by unfold over; rw [if_pos h]
theorem over_cell (w x : World) (b o : Nat) (h : b < w.heap.size) : (over w x).cell? ⟨b, o, none⟩ = w.cell? ⟨b, o, none⟩ := (over_below w x).cell (p := ⟨b, o, none⟩) h
theorem over_frozen (w x : World) (b o : Nat) (h : b < w.heap.size) : (over w x).frozen? ⟨b, o, none⟩ = w.frozen? ⟨b, o, none⟩ := (over_below w x).frozen (p := ⟨b, o, none⟩) h
theorem over_size (w x : World) : w.heap.size ≤ (over w x).heap.size := (over_below w x).size
/-- The region's theorem at the class 'w with new blocks behind it'. -/
theorem wp_region_over_lit {P : Program} {id : Nat} {Q : Exit → Act → World → Prop} {a : Act} {w : World} {l : List Oper} (hm : P.follows .mixedOrders = true) (hB : Region.lexB .any l.toArray = true)
    (h : wpQuiet P l.toArray (fun w' => ∃ x, w' = over w x) (fun a' => ∀ w', (∃ x, w' = over w x) → Q .normal a' w') l a) : (Code.region id l.toArray true).wp P Q a w :=
  wp_region_quiet (C := fun w' => ∃ x, w' = over w x) hm hB ⟨_, over_of (show Below w.heap.size w w.drew from (Below.refl _ _).drew)⟩ (by simpa using h)
/-- A callee's contract at such a region. -/
theorem over_call {P : Program} {f : FuncId} {args : Array Value} {w x : World} {v : Value}
    (h : Calls P f args (over w x) fun e w' => e = .returned v ∧ Below (over w x).heap.size (over w x) w') : Calls P f args (over w x) fun e w'' => e = .returned v ∧ ∃ y, w'' = over w y :=
  h.mono fun _ w' ⟨he, hb⟩ => ⟨he, w', over_of (bfrom (over_below w x) hb (Nat.le_refl _))⟩
theorem over_call_same {P : Program} {f : FuncId} {args : Array Value} {w x : World} {v : Value}
    (h : Calls P f args (over w x) fun e w' => e = .returned v ∧ over w x = w') : Calls P f args (over w x) fun e w'' => e = .returned v ∧ ∃ y, w'' = over w y :=
  h.mono fun _ w' ⟨he, hb⟩ => ⟨he, x, hb.symm⟩
theorem b_alloc {W w : World} (h : Below W.heap.size W w) (o : Obj) : Below W.heap.size W (w.alloc o) := h.alloc h.size o
theorem b_drew {W w : World} (h : Below W.heap.size W w) : Below W.heap.size W w.drew := h.drew
theorem b_over {W w : World} (h : Below W.heap.size W w) (x : World) : Below W.heap.size W (over w x) := bfrom h (over_below w x) (Nat.le_refl _)
theorem b_call {W w1 w2 : World} (h : Below W.heap.size W w1) (hb : Below w1.heap.size w1 w2) : Below W.heap.size W w2 := bfrom h hb (Nat.le_refl _)
theorem b_set {W w : World} (h : Below W.heap.size W w) {p : Addr} (hp : W.heap.size ≤ p.block) (u : Value) : Below W.heap.size W (w.setCell p u) := h.setCell hp u
theorem over_elim {w w' : World} (h : ∃ x, w' = over w x) : Below w.heap.size w w' := by obtain ⟨x, rfl⟩ := h; exact over_below w x
theorem cap_le {n : Nat} (h : n ≤ maxLen) : n ≤ 9223372036854775807 := by unfold maxLen at h; omega
/-- The condition of a region that is held may grow on the way. -/
theorem wpAnyH_mono {P : Program} {md : Region.Mode} {ops : Array Oper} {Q : Exit → Act → World → Prop} {S S' : World → Prop} (h : ∀ w, S' w → S w) : ∀ (fuel : Nat) (listed : Array Bool) (a : Act) (w : World), wpAnyH P md ops Q S' fuel listed a w → wpAnyH P md ops Q S fuel listed a w
  | 0, _, _, _, H => H
  | fuel + 1, _, _, _, H => ⟨H.1, fun i hi => wpOp_mono (fun a' w' h' => ⟨h _ h'.1, wpAnyH_mono h fuel _ a' w' h'.2⟩) (H.2 i hi)⟩
theorem wpAnyH_switch {P : Program} {md : Region.Mode} {ops : Array Oper} {Q : Exit → Act → World → Prop} {S S' : World → Prop} {fuel : Nat} {listed : Array Bool} {a : Act} {w : World} (h : ∀ w, S' w → S w) (hS : S' w) (H : S' w → wpAnyH P md ops Q S' fuel listed a w) : wpAnyH P md ops Q S fuel listed a w :=
  wpAnyH_mono h _ _ _ _ (H hS)
/-- A mark in the goal: the number of the next operation. -/
def AtI (_ : Nat) (p : Prop) : Prop := p
theorem atI {p : Prop} (i : Nat) (h : AtI i p) : p := h
theorem atIo {p : Prop} {i : Nat} (h : p) : AtI i p := h
/-- Take the marked operation first, and mark the next one. -/
theorem takeN {P : Program} {ops : Array Oper} {Q : Exit → Act → World → Prop} {md : Region.Mode} {S : World → Prop} {i : Nat} {oi : Oper} {v : Value} {fuel : Nat} {listed : Array Bool} {a : Act} {w : World} (hi : ops[i]? = some oi)
    (hg : Region.wanted oi (yielded ops a.tmps) = true) (hv : ∀ w, S w → (execOp a.eval oi).run P w = .ok (.value v) w) (hS : S w)
    (h : AtI (i + 1) (wpAnyH P md ops Q S fuel (listed.setIfInBounds i true) (a.put oi.dst v) w))
    (hs : Region.noSelect ops = true := by kernel_rfl) (hf : Region.free md ops listed i = true := by kernel_rfl) (hr : (Region.ready md ops listed).contains i = true := by kernel_rfl)
    (hQ : ∀ c a w, Q (.panic c) (a.put oi.dst v) w → Q (.panic c) a w := by exact fun _ _ _ h => h) : AtI i (wpAnyH P md ops Q S (fuel + 1) listed a w) :=
  wpAnyH_take hi hs hf hr hQ (Or.inl ⟨hg, hv⟩) hS h
end Go.Proofs.YtedmjlhgpdeafaaDoor
