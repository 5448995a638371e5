/- FramePlays, walked: whatever the program and the calls, the answer is true. Conditions: the program and the calls read as lists. -/
import Derived.Test.YtdmidnmciaediaaWFrK9
import Derived.Test.YtdmidnmciaediaaWOpenRow
import Derived.Test.YtdmidnmciaediaaWCut
import Derived.Test.YtdmidnmciaediaaWFrm5
namespace Go.Proofs.Ytdmidnmciaediaa
open Go.RowKit
set_option linter.unusedVariables false
set_option linter.unusedSimpArgs false
attribute [local go_sem] over_cell over_frozen
variable {w0 w w' : World} {r s : Nat} {p q : PrV} {P : PrM} {L : List FrM} {v0 : World} {n0 : Nat}
theorem dat_new {W : World} (hb : Below W.heap.size W w) (hr : W.heap.size ≤ r) (hx : Blk w r [.bool q.u, .slice q.g.a q.g.n q.g.c, .int .i64 q.m, .slice q.f.a q.f.n q.f.c, .slice none 0 0]) (ht : tyB w r = some RFS) : DAt W w r q [] :=
  ⟨⟨none, 0, 0⟩, hb, hx, ht, hr, [], readR_nil _, Or.inl rfl, rfl, fun k h => absurd h (Nat.not_lt_zero _)⟩
theorem pat_new {o : PrV} {B : Nat} {b0 : World} (h : MadeP b0 B o P) (hf : FrsAt b0 w s o ⟨none, 0, 0⟩ [] []) (hn : n0 ≤ b0.heap.size) : PAt n0 w s o P [] := ⟨b0, _, _, B, h, hf, hn⟩
/-- Both stand. -/
structure BothAt (W : World) (q : PrV) (C : PrM) (L : List FrM) (w : World) (s r : Nat) (o : PrV) : Prop where
  pa : PAt W.heap.size w s o C L
  da : DAt W w r q L
  iv : LInv C L
theorem both_below {W : World} {C : PrM} {o : PrV} (h : BothAt W q C L w s r o) (hb : Below w.heap.size w w') : BothAt W q C L w' s r o := ⟨pat_below h.pa hb, dat_below h.da hb, h.iv⟩
theorem both_be {W : World} {C : PrM} {o : PrV} (h : BothAt W q C L w s r o) : Below W.heap.size W w := by
  obtain ⟨_, z⟩ := h.da
  exact z.be
end Go.Proofs.Ytdmidnmciaediaa
