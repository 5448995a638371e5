/- Layer 25's Ours, and of what its program is made. Conditions: the program reads as lists, and is not too great. -/
import Derived.Test.YtedmjlhgpdeafaaDoorQOurs25
import Derived.Test.YtedmjlhgpdeafaaDoorQRdP25
namespace Go.Proofs.YtedmjlhgpdeafaaDoor
open Go.RowKit
set_option linter.unusedVariables false
set_option linter.unusedSimpArgs false
attribute [local go_sem] over_cell over_frozen
/-- A function's code is a row of its own, in a block that is not older than B. -/
def OwnC (B : Nat) (w : World) (v : FnV) (f : FnM) : Prop := OwnR inE INST w B (.slice v.c.a v.c.n v.c.c) f.code
def AllTB (B : Nat) (w : World) : List FnV → List FnM → Prop
  | [], [] => True
  | v :: vs, f :: fs => ((DeepF w v f ∧ FnT w v) ∧ OwnC B w v f) ∧ AllTB B w vs fs
  | _, _ => False
/-- A program that a call has made, from block B on; its codes' blocks are new too. -/
structure MadeB (w : World) (B : Nat) (q : PrV) (P : PrM) : Prop where
  u : q.u = P.u
  m : q.m = P.m
  g : ReadI w (.slice q.g.a q.g.n q.g.c) P.gl
  s : slOk w INTT q.g.a q.g.n
  f : ∃ L, OwnR fnE FUNT w B (.slice q.f.a q.f.n q.f.c) L ∧ AllTB B w L P.fs
end Go.Proofs.YtedmjlhgpdeafaaDoor
