/- Layer 25: what a program's bytes say, read as lists; a reader's state. No conditions beside those stated. InstrRead, walked: whatever bytes, the answer is true. Conditions: the slice reads as bytes. Layer 25: a reader's functions. Conditions: the reader stands, its bytes are bytes. Layer 25: a reader's instructions. Conditions: the reader stands, its bytes are bytes. Layer 25: a reader's program. Conditions: the reader stands, its bytes are bytes, and not too many. -/
import Derived.Test.YtdmidnmciaediaaWInstrBytes
import Derived.Test.YtdmidnmciaediaaWOurs25
namespace Go.Proofs.Ytdmidnmciaediaa
section
open Go.RowKit
set_option linter.unusedVariables false
set_option linter.unusedSimpArgs false
/-- A program that a call has made, from block B on. -/
structure MadeP (w : World) (B : Nat) (q : PrV) (P : PrM) : Prop where
  u : q.u = P.u
  m : q.m = P.m
  g : ReadI w (.slice q.g.a q.g.n q.g.c) P.gl
  s : slOk w INTT q.g.a q.g.n
  f : ∃ L, OwnR fnE FUNT w B (.slice q.f.a q.f.n q.f.c) L ∧ AllT w L P.fs
theorem madeP_read {w : World} {B : Nat} {q : PrV} {P : PrM} (h : MadeP w B q P) : ReadP w q P := by
  obtain ⟨h1, h2, h3, h4, L, h5, h6⟩ := h
  exact ⟨h1, h3, h2, L, ownR_read h5, allT_F h6⟩
theorem madeP_below {w w' : World} {B : Nat} {q : PrV} {P : PrM} (h : MadeP w B q P) (hb : Below w.heap.size w w') : MadeP w' B q P := by
  obtain ⟨e1, e2, h3, h4, L, h5, h6⟩ := h
  have K := keepT_below hb
  exact ⟨e1, e2, readI_below h3 hb, slOk_keep h4 (keepT_ty K (Or.inl rfl)), L, ownR_below h5 hb, allT_keep K h6⟩
end
end Go.Proofs.Ytdmidnmciaediaa
