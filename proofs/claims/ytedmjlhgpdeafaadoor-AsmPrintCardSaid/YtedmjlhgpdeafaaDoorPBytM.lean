/- Layer 25: a program's bytes, as lists; rows of bytes kept apart from all else. No conditions beside those stated. -/
import Derived.Test.YtedmjlhgpdeafaaDoorPMayPa
import Derived.Test.YtedmjlhgpdeafaaDoorPInstrBytesLaw
import Derived.Laws.OwnMore
namespace Go.Proofs.YtedmjlhgpdeafaaDoor
open Go.RowKit
set_option linter.unusedVariables false
set_option linter.unusedSimpArgs false
def GoodIn (i : In4) : Prop := 0 ≤ i.x ∧ i.x < 18446744073709551616
def GoodP (p : PrM) : Prop := ∀ f ∈ p.fs, ∀ i ∈ f.code, GoodIn i
/-- What a function that may be is. -/
structure OkF (f : FnM) : Prop where
  p : f.ps.length ≤ 8
  l : f.ls.length ≤ 8
  r : 0 ≤ f.r ∧ f.r ≤ 3
  c1 : 1 ≤ f.code.length
  c2 : f.code.length ≤ 96
  i : ∀ i ∈ f.code, mayI i = true
  kp : ∀ x ∈ f.ps, 0 ≤ x ∧ x ≤ 3
  kl : ∀ x ∈ f.ls, 0 ≤ x ∧ x ≤ 3
  pl : f.ps.length + f.ls.length ≤ 8
structure OkP (p : PrM) : Prop where
  f1 : 1 ≤ p.fs.length
  f2 : p.fs.length ≤ 16
  m : 0 ≤ p.m ∧ p.m ≤ 4
  g : p.gl.length ≤ 8
  kg : ∀ x ∈ p.gl, 0 ≤ x ∧ x ≤ 3
  f : ∀ f ∈ p.fs, OkF f
end Go.Proofs.YtedmjlhgpdeafaaDoor
