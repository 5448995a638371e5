/- Layer 7: the law's calls as a row of structs. Conditions: those stated. -/
import Derived.Test.YtgbbnmjfkhconaaSla8
namespace Go.Proofs.Ytgbbnmjfkhconaa
open Go.RowKit
set_option linter.unusedVariables false
set_option linter.unusedSimpArgs false
variable {w w' : World} {b : SlB} {m : SlM} {P Z N : Nat} {fl : List Nat}
structure Sl7 where
  a : Option Addr
  n : Nat
  c : Nat
structure Op7 where
  kind : Int
  k : Int
  at_ : Int
  s : Sl7
def op7 : Elt Op7 where
  cells := fun o => [.int .i64 o.kind, .int .i64 o.k, .int .i64 o.at_, .slice o.s.a o.s.n o.s.c]
  size := 4
  pos := by decide
  len := fun _ => rfl
  one := fun r u hu => by
    simp only [List.mem_cons, List.not_mem_nil, or_false] at hu
    rcases hu with rfl | rfl | rfl | rfl <;> rfl
theorem slx_lt (h : SlAt w b m) : ∀ j, slX b j → j < w.heap.size := fun j hj => by
  obtain ⟨W1, l1⟩ := h.li
  obtain ⟨W2, l2⟩ := h.he
  have h1 := h.hd.1
  have h2 := h.ar.rw.1
  have h3 := l1.rw.1
  have h4 := l2.rw.1
  rcases hj with q | q | q | q <;> omega
/-- The pair, and where the last given slot stands. -/
structure W7 (w0 w : World) (p : Nat) (rs : Nat) (b : SlB) (Z N : Nat) (m : SlM) (fl : List Nat) : Prop where
  g : SlG w b m 1 Z N fl
  pr : Blk w p [tp b.ab, sp b.s, tp rs]
  np : ¬ slX b p
  nw : slNew w0.heap.size b
  be : Below w0.heap.size w0 w
variable {w0 : World} {p rs : Nat}
theorem w7_below (h : W7 w0 w p rs b Z N m fl) (hb : Below w.heap.size w w') : W7 w0 w' p rs b Z N m fl := ⟨⟨sl_below h.g.a hb, h.g.g⟩, blk_below h.pr hb, h.np, h.nw, b_call h.be hb⟩
theorem w7_turn (h : W7 w0 w p rs b Z N m fl) {m' : SlM} {fl' : List Nat} (ha : SlAt w' b m') (hg : SGood m' 1 Z N fl') (hx : GrowX w w' (slX b)) : W7 w0 w' p rs b Z N m' fl' := ⟨⟨ha, hg⟩, blk_gx h.pr hx h.np, h.np, h.nw, b_slx h.be h.nw hx⟩
def LastOk (lst : Int) (fl : List Nat) : Prop := lst = -1 ∨ ∃ k rest, lst = ((k : Nat) : Int) ∧ fl = k :: rest
end Go.Proofs.Ytgbbnmjfkhconaa
