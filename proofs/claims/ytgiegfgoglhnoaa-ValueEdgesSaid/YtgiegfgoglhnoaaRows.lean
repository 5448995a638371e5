/-
  No cell of these rows narrows 'for every input' (looked for: loops, veiled, ifaces, maps, wideKeys, modest, calm, conditions, laid).
  DERIVED. THE GIVEN ROWS OF THIS SEAT. 7 by the template 'for every input the law returns true; each argument reads behind the call as it read before'; 0 by the template 'total and deterministic' (their statements: YtgiegfgoglhnoaaTotals.lean).
  GIVEN WITH THE SEED: the statements are not yours to turn. If you find one false, say at which input.
  Laid BY PROGRAM, IN A SANDBOX (cutbox-rows.mjs): the forced cells as the released guide's own fill.sh prints them over the translation bfbb6549b3827fd8… (all of the seat's roots in one cut). By AI agents, Wed Nov 11 2026. No macro, syntax, notation, axiom, sorry.
-/
import Derived.Test.YtgiegfgoglhnoaaChecked
import GoSem.Claim
import GoSem.ClaimJoined
import GoSem.ClaimMapViews
import Derived.JoinedTies
import Derived.KernelRfl
namespace Go.Proofs.Ytgiegfgoglhnoaa
/- THE CELL 'sum', in the pinned program and in every row, IS THE sha256 OF THE DUMP (.gsa) THAT YtgiegfgoglhnoaaProg.lean LOADS. Nothing in Lean hashes anything: it is a label: what it is worth is what the hold of that sum in a sandbox is worth. -/
noncomputable def Try.pinned : Pinned := { name := "ytgiegfgoglhnoaa", sum := "bfbb6549b3827fd8a8eb01526814b42f525ae2526bb2787eaaeb3326d84e47d8", checked := Try.checked }
namespace Rows
def none {H : Type} : Left H := { results := [], args := [] }

/-- 'tumbrellaw23.ValueBinary': WHATEVER THE INPUT: true; the input reads as it did. -/
def valueBinarySpec : ChangeSpec := { name := "valueBinary", fn := fun _ => fun
  | [d1, d2, d3] => { results := [.lit (.bool true)], args := [d1, d2, d3] }
  | _ => none }
def valueBinaryRow : OpenClaim := { program := "ytgiegfgoglhnoaa", sum := "bfbb6549b3827fd8a8eb01526814b42f525ae2526bb2787eaaeb3326d84e47d8", func := "tumbrel/tumbrellaw23.ValueBinary", spec := "valueBinary", inPlace := ["math.Float64frombits", "math.Float64bits"], apart := false }
def ValueBinarySaid : Prop := valueBinaryRow.holds Try.pinned (OpenSpec.ofChange valueBinarySpec)

/-- ITS FALSE NEIGHBOUR: 'it returns false'. Refute it at one input. -/
def valueBinaryWrong : ChangeSpec := { name := "valueBinary", fn := fun _ => fun
  | [d1, d2, d3] => { results := [.lit (.bool false)], args := [d1, d2, d3] }
  | _ => none }
def ValueBinaryWrongFalsely : Prop := valueBinaryRow.holds Try.pinned (OpenSpec.ofChange valueBinaryWrong)

/-- 'tumbrellaw23.ValueInts': WHATEVER THE INPUT: true; the input reads as it did. -/
def valueIntsSpec : ChangeSpec := { name := "valueInts", fn := fun _ => fun
  | [d1, d2, d3] => { results := [.lit (.bool true)], args := [d1, d2, d3] }
  | _ => none }
def valueIntsRow : OpenClaim := { program := "ytgiegfgoglhnoaa", sum := "bfbb6549b3827fd8a8eb01526814b42f525ae2526bb2787eaaeb3326d84e47d8", func := "tumbrel/tumbrellaw23.ValueInts", spec := "valueInts", inPlace := ["math.Float64frombits", "math.Float64bits"], apart := false }
def ValueIntsSaid : Prop := valueIntsRow.holds Try.pinned (OpenSpec.ofChange valueIntsSpec)

/-- ITS FALSE NEIGHBOUR: 'it returns false'. Refute it at one input. -/
def valueIntsWrong : ChangeSpec := { name := "valueInts", fn := fun _ => fun
  | [d1, d2, d3] => { results := [.lit (.bool false)], args := [d1, d2, d3] }
  | _ => none }
def ValueIntsWrongFalsely : Prop := valueIntsRow.holds Try.pinned (OpenSpec.ofChange valueIntsWrong)

/-- 'tumbrellaw23.ValueFloats': WHATEVER THE INPUT: true; the input reads as it did. -/
def valueFloatsSpec : ChangeSpec := { name := "valueFloats", fn := fun _ => fun
  | [d1, d2, d3] => { results := [.lit (.bool true)], args := [d1, d2, d3] }
  | _ => none }
def valueFloatsRow : OpenClaim := { program := "ytgiegfgoglhnoaa", sum := "bfbb6549b3827fd8a8eb01526814b42f525ae2526bb2787eaaeb3326d84e47d8", func := "tumbrel/tumbrellaw23.ValueFloats", spec := "valueFloats", inPlace := ["math.Float64frombits", "math.Float64bits"], apart := false }
def ValueFloatsSaid : Prop := valueFloatsRow.holds Try.pinned (OpenSpec.ofChange valueFloatsSpec)

/-- ITS FALSE NEIGHBOUR: 'it returns false'. Refute it at one input. -/
def valueFloatsWrong : ChangeSpec := { name := "valueFloats", fn := fun _ => fun
  | [d1, d2, d3] => { results := [.lit (.bool false)], args := [d1, d2, d3] }
  | _ => none }
def ValueFloatsWrongFalsely : Prop := valueFloatsRow.holds Try.pinned (OpenSpec.ofChange valueFloatsWrong)

/-- 'tumbrellaw23.ValueDivides': WHATEVER THE INPUT: true; the input reads as it did. -/
def valueDividesSpec : ChangeSpec := { name := "valueDivides", fn := fun _ => fun
  | [d1, d2] => { results := [.lit (.bool true)], args := [d1, d2] }
  | _ => none }
def valueDividesRow : OpenClaim := { program := "ytgiegfgoglhnoaa", sum := "bfbb6549b3827fd8a8eb01526814b42f525ae2526bb2787eaaeb3326d84e47d8", func := "tumbrel/tumbrellaw23.ValueDivides", spec := "valueDivides", inPlace := ["math.Float64frombits", "math.Float64bits"], apart := false }
def ValueDividesSaid : Prop := valueDividesRow.holds Try.pinned (OpenSpec.ofChange valueDividesSpec)

/-- ITS FALSE NEIGHBOUR: 'it returns false'. Refute it at one input. -/
def valueDividesWrong : ChangeSpec := { name := "valueDivides", fn := fun _ => fun
  | [d1, d2] => { results := [.lit (.bool false)], args := [d1, d2] }
  | _ => none }
def ValueDividesWrongFalsely : Prop := valueDividesRow.holds Try.pinned (OpenSpec.ofChange valueDividesWrong)

/-- 'tumbrellaw23.ValueZero': WHATEVER THE INPUT: true; the input reads as it did. -/
def valueZeroSpec : ChangeSpec := { name := "valueZero", fn := fun _ => fun
  | [d1, d2, d3] => { results := [.lit (.bool true)], args := [d1, d2, d3] }
  | _ => none }
def valueZeroRow : OpenClaim := { program := "ytgiegfgoglhnoaa", sum := "bfbb6549b3827fd8a8eb01526814b42f525ae2526bb2787eaaeb3326d84e47d8", func := "tumbrel/tumbrellaw23.ValueZero", spec := "valueZero", inPlace := ["math.Float64frombits", "math.Float64bits"], apart := false }
def ValueZeroSaid : Prop := valueZeroRow.holds Try.pinned (OpenSpec.ofChange valueZeroSpec)

/-- ITS FALSE NEIGHBOUR: 'it returns false'. Refute it at one input. -/
def valueZeroWrong : ChangeSpec := { name := "valueZero", fn := fun _ => fun
  | [d1, d2, d3] => { results := [.lit (.bool false)], args := [d1, d2, d3] }
  | _ => none }
def ValueZeroWrongFalsely : Prop := valueZeroRow.holds Try.pinned (OpenSpec.ofChange valueZeroWrong)

/-- 'tumbrellaw23.ValueEdges': WHATEVER THE INPUT: true; the input reads as it did. -/
def valueEdgesSpec : ChangeSpec := { name := "valueEdges", fn := fun _ => fun
  | [d1, d2] => { results := [.lit (.bool true)], args := [d1, d2] }
  | _ => none }
def valueEdgesRow : OpenClaim := { program := "ytgiegfgoglhnoaa", sum := "bfbb6549b3827fd8a8eb01526814b42f525ae2526bb2787eaaeb3326d84e47d8", func := "tumbrel/tumbrellaw23.ValueEdges", spec := "valueEdges", inPlace := ["math.Float64frombits", "math.Float64bits"], apart := false }
def ValueEdgesSaid : Prop := valueEdgesRow.holds Try.pinned (OpenSpec.ofChange valueEdgesSpec)

/-- ITS FALSE NEIGHBOUR: 'it returns false'. Refute it at one input. -/
def valueEdgesWrong : ChangeSpec := { name := "valueEdges", fn := fun _ => fun
  | [d1, d2] => { results := [.lit (.bool false)], args := [d1, d2] }
  | _ => none }
def ValueEdgesWrongFalsely : Prop := valueEdgesRow.holds Try.pinned (OpenSpec.ofChange valueEdgesWrong)

/-- 'tumbrellaw23.ValueTurns': WHATEVER THE INPUT: true; the input reads as it did. -/
def valueTurnsSpec : ChangeSpec := { name := "valueTurns", fn := fun _ => fun
  | [d1, d2, d3] => { results := [.lit (.bool true)], args := [d1, d2, d3] }
  | _ => none }
def valueTurnsRow : OpenClaim := { program := "ytgiegfgoglhnoaa", sum := "bfbb6549b3827fd8a8eb01526814b42f525ae2526bb2787eaaeb3326d84e47d8", func := "tumbrel/tumbrellaw23.ValueTurns", spec := "valueTurns", inPlace := ["math.Float64frombits", "math.Float64bits"], apart := false }
def ValueTurnsSaid : Prop := valueTurnsRow.holds Try.pinned (OpenSpec.ofChange valueTurnsSpec)

/-- ITS FALSE NEIGHBOUR: 'it returns false'. Refute it at one input. -/
def valueTurnsWrong : ChangeSpec := { name := "valueTurns", fn := fun _ => fun
  | [d1, d2, d3] => { results := [.lit (.bool false)], args := [d1, d2, d3] }
  | _ => none }
def ValueTurnsWrongFalsely : Prop := valueTurnsRow.holds Try.pinned (OpenSpec.ofChange valueTurnsWrong)

/- THE SECOND FORM. 'bulk': how many values and letters a reading holds, each counted each time it is reached (what is shared counts as often as it is met; a slice's spare places count too). A statement '..UptoSaid' is the law's where the arguments, and the package variables that the reading takes, are together of bulk at most 1048576: NARROWER than '..Said'. Prove '..Said' where nothing that the law and all that it calls make is longer than what came in: it says more and counts as full. Else prove '..UptoSaid'. A law counts once. -/
mutual
def uptoBulk {H : Type} : DataW H → Nat
  | .lit (.string bytes) => bytes.length + 1
  | .lit _ => 1
  | .nil => 1
  | .ptr d => uptoBulk d + 1
  | .slice elems spare => uptoBulkAll elems + uptoBulkAll spare + 1
  | .agg parts => uptoBulkAll parts + 1
  | .iface _ d => uptoBulk d + 1
  | .map entries => uptoBulkEntries entries + 1
  | .held _ => 1
def uptoBulkAll {H : Type} : List (DataW H) → Nat
  | [] => 0
  | d :: r => uptoBulk d + uptoBulkAll r
def uptoBulkEntries {H : Type} : List (Lit × DataW H) → Nat
  | [] => 0
  | x :: r => uptoBulkEntry x + uptoBulkEntries r
def uptoBulkEntry {H : Type} : Lit × DataW H → Nat
  | (.string bytes, d) => bytes.length + uptoBulk d + 1
  | (_, d) => uptoBulk d + 1
 end
def uptoSmall : (H : Type) → List (DataW H) → Bool := fun _ ds => decide (uptoBulkAll ds ≤ 1048576)
def OpenSpec.upto (s : _root_.Go.ChangeSpec) : _root_.Go.OpenSpec := { _root_.Go.OpenSpec.ofChange s with cond := some uptoSmall }

/-- 'tumbrellaw23.ValueBinary', WHERE WHAT IT READS IS OF BULK AT MOST 1048576: true; the input reads as it did. -/
def valueBinaryUptoRow : OpenClaim := { program := "ytgiegfgoglhnoaa", sum := "bfbb6549b3827fd8a8eb01526814b42f525ae2526bb2787eaaeb3326d84e47d8", func := "tumbrel/tumbrellaw23.ValueBinary", spec := "valueBinary", inPlace := ["math.Float64frombits", "math.Float64bits"], apart := false, narrowed := true }
def ValueBinaryUptoSaid : Prop := valueBinaryUptoRow.holds Try.pinned (OpenSpec.upto valueBinarySpec)

/-- 'tumbrellaw23.ValueInts', WHERE WHAT IT READS IS OF BULK AT MOST 1048576: true; the input reads as it did. -/
def valueIntsUptoRow : OpenClaim := { program := "ytgiegfgoglhnoaa", sum := "bfbb6549b3827fd8a8eb01526814b42f525ae2526bb2787eaaeb3326d84e47d8", func := "tumbrel/tumbrellaw23.ValueInts", spec := "valueInts", inPlace := ["math.Float64frombits", "math.Float64bits"], apart := false, narrowed := true }
def ValueIntsUptoSaid : Prop := valueIntsUptoRow.holds Try.pinned (OpenSpec.upto valueIntsSpec)

/-- 'tumbrellaw23.ValueFloats', WHERE WHAT IT READS IS OF BULK AT MOST 1048576: true; the input reads as it did. -/
def valueFloatsUptoRow : OpenClaim := { program := "ytgiegfgoglhnoaa", sum := "bfbb6549b3827fd8a8eb01526814b42f525ae2526bb2787eaaeb3326d84e47d8", func := "tumbrel/tumbrellaw23.ValueFloats", spec := "valueFloats", inPlace := ["math.Float64frombits", "math.Float64bits"], apart := false, narrowed := true }
def ValueFloatsUptoSaid : Prop := valueFloatsUptoRow.holds Try.pinned (OpenSpec.upto valueFloatsSpec)

/-- 'tumbrellaw23.ValueDivides', WHERE WHAT IT READS IS OF BULK AT MOST 1048576: true; the input reads as it did. -/
def valueDividesUptoRow : OpenClaim := { program := "ytgiegfgoglhnoaa", sum := "bfbb6549b3827fd8a8eb01526814b42f525ae2526bb2787eaaeb3326d84e47d8", func := "tumbrel/tumbrellaw23.ValueDivides", spec := "valueDivides", inPlace := ["math.Float64frombits", "math.Float64bits"], apart := false, narrowed := true }
def ValueDividesUptoSaid : Prop := valueDividesUptoRow.holds Try.pinned (OpenSpec.upto valueDividesSpec)

/-- 'tumbrellaw23.ValueZero', WHERE WHAT IT READS IS OF BULK AT MOST 1048576: true; the input reads as it did. -/
def valueZeroUptoRow : OpenClaim := { program := "ytgiegfgoglhnoaa", sum := "bfbb6549b3827fd8a8eb01526814b42f525ae2526bb2787eaaeb3326d84e47d8", func := "tumbrel/tumbrellaw23.ValueZero", spec := "valueZero", inPlace := ["math.Float64frombits", "math.Float64bits"], apart := false, narrowed := true }
def ValueZeroUptoSaid : Prop := valueZeroUptoRow.holds Try.pinned (OpenSpec.upto valueZeroSpec)

/-- 'tumbrellaw23.ValueEdges', WHERE WHAT IT READS IS OF BULK AT MOST 1048576: true; the input reads as it did. -/
def valueEdgesUptoRow : OpenClaim := { program := "ytgiegfgoglhnoaa", sum := "bfbb6549b3827fd8a8eb01526814b42f525ae2526bb2787eaaeb3326d84e47d8", func := "tumbrel/tumbrellaw23.ValueEdges", spec := "valueEdges", inPlace := ["math.Float64frombits", "math.Float64bits"], apart := false, narrowed := true }
def ValueEdgesUptoSaid : Prop := valueEdgesUptoRow.holds Try.pinned (OpenSpec.upto valueEdgesSpec)

/-- 'tumbrellaw23.ValueTurns', WHERE WHAT IT READS IS OF BULK AT MOST 1048576: true; the input reads as it did. -/
def valueTurnsUptoRow : OpenClaim := { program := "ytgiegfgoglhnoaa", sum := "bfbb6549b3827fd8a8eb01526814b42f525ae2526bb2787eaaeb3326d84e47d8", func := "tumbrel/tumbrellaw23.ValueTurns", spec := "valueTurns", inPlace := ["math.Float64frombits", "math.Float64bits"], apart := false, narrowed := true }
def ValueTurnsUptoSaid : Prop := valueTurnsUptoRow.holds Try.pinned (OpenSpec.upto valueTurnsSpec)

end Rows
end Go.Proofs.Ytgiegfgoglhnoaa
