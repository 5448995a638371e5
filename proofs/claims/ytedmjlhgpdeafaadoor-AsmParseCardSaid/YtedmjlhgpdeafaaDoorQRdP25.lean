/- Layer 25: a reader's program. Conditions: the reader stands, its bytes are bytes, and not too many. -/
import Derived.Test.YtedmjlhgpdeafaaDoorQRdC25
import Derived.Test.YtedmjlhgpdeafaaDoorQInstrWake
namespace Go.Proofs.YtedmjlhgpdeafaaDoor
open Go.RowKit
set_option linter.unusedVariables false
set_option linter.unusedSimpArgs false
/-- A program that a call has made, from block B on. -/
structure MadeP (w : World) (B : Nat) (q : PrV) (P : PrM) : Prop where
  u : q.u = P.u
  m : q.m = P.m
  g : ReadI w (.slice q.g.a q.g.n q.g.c) P.gl
  s : slOk w INTT q.g.a q.g.n
  f : ∃ L, OwnR fnE FUNT w B (.slice q.f.a q.f.n q.f.c) L ∧ AllT w L P.fs
end Go.Proofs.YtedmjlhgpdeafaaDoor
