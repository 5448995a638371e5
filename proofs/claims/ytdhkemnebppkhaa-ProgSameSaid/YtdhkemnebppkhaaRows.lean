/-
  No cell of these rows narrows 'for every input' (looked for: loops, veiled, ifaces, maps, wideKeys, modest, calm, conditions, laid).
  DERIVED. THE GIVEN ROWS OF THIS SEAT. 7 by the template 'for every input the law returns true; each argument reads behind the call as it read before'; 0 by the template 'total and deterministic' (their statements: YtdhkemnebppkhaaTotals.lean).
  GIVEN WITH THE SEED: the statements are not yours to turn. If you find one false, say at which input.
  Laid BY PROGRAM, IN A SANDBOX (cutbox-rows.mjs): the forced cells as the released guide's own fill.sh prints them over the translation 9644748412ea64e4… (all of the seat's roots in one cut). By AI agents, Wed Nov 11 2026. No macro, syntax, notation, axiom, sorry.
-/
import Derived.Test.YtdhkemnebppkhaaChecked
import GoSem.Claim
import GoSem.ClaimJoined
import GoSem.ClaimMapViews
import Derived.JoinedTies
import Derived.KernelRfl
namespace Go.Proofs.Ytdhkemnebppkhaa
/- THE CELL 'sum', in the pinned program and in every row, IS THE sha256 OF THE DUMP (.gsa) THAT YtdhkemnebppkhaaProg.lean LOADS. Nothing in Lean hashes anything: it is a label: what it is worth is what the hold of that sum in a sandbox is worth. -/
noncomputable def Try.pinned : Pinned := { name := "ytdhkemnebppkhaa", sum := "9644748412ea64e45b5402fba055769b7f9ff3476f244028e46579a7de766983", checked := Try.checked }
namespace Rows
def none {H : Type} : Left H := { results := [], args := [] }

/-- 'tumbrellaw24.InstrShapes': WHATEVER THE INPUT: true; the input reads as it did. -/
def instrShapesSpec : ChangeSpec := { name := "instrShapes", fn := fun _ => fun
  | [d1, d2] => { results := [.lit (.bool true)], args := [d1, d2] }
  | _ => none }
def instrShapesRow : OpenClaim := { program := "ytdhkemnebppkhaa", sum := "9644748412ea64e45b5402fba055769b7f9ff3476f244028e46579a7de766983", func := "tumbrel/tumbrellaw24.InstrShapes", spec := "instrShapes", apart := false }
def InstrShapesSaid : Prop := instrShapesRow.holds Try.pinned (OpenSpec.ofChange instrShapesSpec)

/-- ITS FALSE NEIGHBOUR: 'it returns false'. Refute it at one input. -/
def instrShapesWrong : ChangeSpec := { name := "instrShapes", fn := fun _ => fun
  | [d1, d2] => { results := [.lit (.bool false)], args := [d1, d2] }
  | _ => none }
def InstrShapesWrongFalsely : Prop := instrShapesRow.holds Try.pinned (OpenSpec.ofChange instrShapesWrong)

/-- 'tumbrellaw24.InstrBytes': WHATEVER THE INPUT: true; the input reads as it did. -/
def instrBytesSpec : ChangeSpec := { name := "instrBytes", fn := fun _ => fun
  | [d1, d2] => { results := [.lit (.bool true)], args := [d1, d2] }
  | _ => none }
def instrBytesRow : OpenClaim := { program := "ytdhkemnebppkhaa", sum := "9644748412ea64e45b5402fba055769b7f9ff3476f244028e46579a7de766983", func := "tumbrel/tumbrellaw24.InstrBytes", spec := "instrBytes", apart := false }
def InstrBytesSaid : Prop := instrBytesRow.holds Try.pinned (OpenSpec.ofChange instrBytesSpec)

/-- ITS FALSE NEIGHBOUR: 'it returns false'. Refute it at one input. -/
def instrBytesWrong : ChangeSpec := { name := "instrBytes", fn := fun _ => fun
  | [d1, d2] => { results := [.lit (.bool false)], args := [d1, d2] }
  | _ => none }
def InstrBytesWrongFalsely : Prop := instrBytesRow.holds Try.pinned (OpenSpec.ofChange instrBytesWrong)

/-- 'tumbrellaw24.InstrRead': WHATEVER THE INPUT: true; the input reads as it did. -/
def instrReadSpec : ChangeSpec := { name := "instrRead", fn := fun _ => fun
  | [d] => { results := [.lit (.bool true)], args := [d] }
  | _ => none }
def instrReadRow : OpenClaim := { program := "ytdhkemnebppkhaa", sum := "9644748412ea64e45b5402fba055769b7f9ff3476f244028e46579a7de766983", func := "tumbrel/tumbrellaw24.InstrRead", spec := "instrRead", apart := false }
def InstrReadSaid : Prop := instrReadRow.holds Try.pinned (OpenSpec.ofChange instrReadSpec)

/-- ITS FALSE NEIGHBOUR: 'it returns false'. Refute it at one input. -/
def instrReadWrong : ChangeSpec := { name := "instrRead", fn := fun _ => fun
  | [d] => { results := [.lit (.bool false)], args := [d] }
  | _ => none }
def InstrReadWrongFalsely : Prop := instrReadRow.holds Try.pinned (OpenSpec.ofChange instrReadWrong)

/-- 'tumbrellaw24.InstrRow': WHATEVER THE INPUT: true; the input reads as it did. -/
def instrRowSpec : ChangeSpec := { name := "instrRow", fn := fun _ => fun
  | [d] => { results := [.lit (.bool true)], args := [d] }
  | _ => none }
def instrRowRow : OpenClaim := { program := "ytdhkemnebppkhaa", sum := "9644748412ea64e45b5402fba055769b7f9ff3476f244028e46579a7de766983", func := "tumbrel/tumbrellaw24.InstrRow", spec := "instrRow", apart := false }
def InstrRowSaid : Prop := instrRowRow.holds Try.pinned (OpenSpec.ofChange instrRowSpec)

/-- ITS FALSE NEIGHBOUR: 'it returns false'. Refute it at one input. -/
def instrRowWrong : ChangeSpec := { name := "instrRow", fn := fun _ => fun
  | [d] => { results := [.lit (.bool false)], args := [d] }
  | _ => none }
def InstrRowWrongFalsely : Prop := instrRowRow.holds Try.pinned (OpenSpec.ofChange instrRowWrong)

/-- 'tumbrellaw25.ProgSame': WHATEVER THE INPUT: true; the input reads as it did. -/
def progSameSpec : ChangeSpec := { name := "progSame", fn := fun _ => fun
  | [d1, d2, d3, d4, d5] => { results := [.lit (.bool true)], args := [d1, d2, d3, d4, d5] }
  | _ => none }
def progSameRow : OpenClaim := { program := "ytdhkemnebppkhaa", sum := "9644748412ea64e45b5402fba055769b7f9ff3476f244028e46579a7de766983", func := "tumbrel/tumbrellaw25.ProgSame", spec := "progSame", unfollowed := true, recurses := true, apart := false }
def ProgSameSaid : Prop := progSameRow.holds Try.pinned (OpenSpec.ofChange progSameSpec)

/-- ITS FALSE NEIGHBOUR: 'it returns false'. Refute it at one input. -/
def progSameWrong : ChangeSpec := { name := "progSame", fn := fun _ => fun
  | [d1, d2, d3, d4, d5] => { results := [.lit (.bool false)], args := [d1, d2, d3, d4, d5] }
  | _ => none }
def ProgSameWrongFalsely : Prop := progSameRow.holds Try.pinned (OpenSpec.ofChange progSameWrong)

/-- 'tumbrellaw25.ProgBytes': WHATEVER THE INPUT: true; the input reads as it did. -/
def progBytesSpec : ChangeSpec := { name := "progBytes", fn := fun _ => fun
  | [d] => { results := [.lit (.bool true)], args := [d] }
  | _ => none }
def progBytesRow : OpenClaim := { program := "ytdhkemnebppkhaa", sum := "9644748412ea64e45b5402fba055769b7f9ff3476f244028e46579a7de766983", func := "tumbrel/tumbrellaw25.ProgBytes", spec := "progBytes", unfollowed := true, recurses := true, apart := false }
def ProgBytesSaid : Prop := progBytesRow.holds Try.pinned (OpenSpec.ofChange progBytesSpec)

/-- ITS FALSE NEIGHBOUR: 'it returns false'. Refute it at one input. -/
def progBytesWrong : ChangeSpec := { name := "progBytes", fn := fun _ => fun
  | [d] => { results := [.lit (.bool false)], args := [d] }
  | _ => none }
def ProgBytesWrongFalsely : Prop := progBytesRow.holds Try.pinned (OpenSpec.ofChange progBytesWrong)

/-- 'tumbrellaw25.ProgRead': WHATEVER THE INPUT: true; the input reads as it did. -/
def progReadSpec : ChangeSpec := { name := "progRead", fn := fun _ => fun
  | [d1, d2, d3, d4, d5, d6] => { results := [.lit (.bool true)], args := [d1, d2, d3, d4, d5, d6] }
  | _ => none }
def progReadRow : OpenClaim := { program := "ytdhkemnebppkhaa", sum := "9644748412ea64e45b5402fba055769b7f9ff3476f244028e46579a7de766983", func := "tumbrel/tumbrellaw25.ProgRead", spec := "progRead", unfollowed := true, recurses := true, apart := false }
def ProgReadSaid : Prop := progReadRow.holds Try.pinned (OpenSpec.ofChange progReadSpec)

/-- ITS FALSE NEIGHBOUR: 'it returns false'. Refute it at one input. -/
def progReadWrong : ChangeSpec := { name := "progRead", fn := fun _ => fun
  | [d1, d2, d3, d4, d5, d6] => { results := [.lit (.bool false)], args := [d1, d2, d3, d4, d5, d6] }
  | _ => none }
def ProgReadWrongFalsely : Prop := progReadRow.holds Try.pinned (OpenSpec.ofChange progReadWrong)

/- THE SECOND FORM. 'bulk': how many values and letters a reading holds, each counted each time it is reached (what is shared counts as often as it is met; a slice's spare places count too). A statement '..UptoSaid' is the law's where the arguments, and the package variables that the reading takes, are together of bulk at most 1048576: NARROWER than '..Said'. Prove '..Said' where nothing that the law and all that it calls make is longer than what came in: it says more and counts as full. Else prove '..UptoSaid'. A law counts once. -/
mutual
def uptoBulk {H : Type} : DataW H → Nat
  | .lit (.string bytes) => bytes.length + 1
  | .lit _ => 1
  | .nil => 1
  | .ptr d => uptoBulk d + 1
  | .slice elems spare => uptoBulkAll elems + uptoBulkAll spare + 1
  | .agg parts => uptoBulkAll parts + 1
  | .iface _ d => uptoBulk d + 1
  | .map entries => uptoBulkEntries entries + 1
  | .held _ => 1
def uptoBulkAll {H : Type} : List (DataW H) → Nat
  | [] => 0
  | d :: r => uptoBulk d + uptoBulkAll r
def uptoBulkEntries {H : Type} : List (Lit × DataW H) → Nat
  | [] => 0
  | x :: r => uptoBulkEntry x + uptoBulkEntries r
def uptoBulkEntry {H : Type} : Lit × DataW H → Nat
  | (.string bytes, d) => bytes.length + uptoBulk d + 1
  | (_, d) => uptoBulk d + 1
 end
def uptoSmall : (H : Type) → List (DataW H) → Bool := fun _ ds => decide (uptoBulkAll ds ≤ 1048576)
def OpenSpec.upto (s : _root_.Go.ChangeSpec) : _root_.Go.OpenSpec := { _root_.Go.OpenSpec.ofChange s with cond := some uptoSmall }

/-- 'tumbrellaw24.InstrShapes', WHERE WHAT IT READS IS OF BULK AT MOST 1048576: true; the input reads as it did. -/
def instrShapesUptoRow : OpenClaim := { program := "ytdhkemnebppkhaa", sum := "9644748412ea64e45b5402fba055769b7f9ff3476f244028e46579a7de766983", func := "tumbrel/tumbrellaw24.InstrShapes", spec := "instrShapes", apart := false, narrowed := true }
def InstrShapesUptoSaid : Prop := instrShapesUptoRow.holds Try.pinned (OpenSpec.upto instrShapesSpec)

/-- 'tumbrellaw24.InstrBytes', WHERE WHAT IT READS IS OF BULK AT MOST 1048576: true; the input reads as it did. -/
def instrBytesUptoRow : OpenClaim := { program := "ytdhkemnebppkhaa", sum := "9644748412ea64e45b5402fba055769b7f9ff3476f244028e46579a7de766983", func := "tumbrel/tumbrellaw24.InstrBytes", spec := "instrBytes", apart := false, narrowed := true }
def InstrBytesUptoSaid : Prop := instrBytesUptoRow.holds Try.pinned (OpenSpec.upto instrBytesSpec)

/-- 'tumbrellaw24.InstrRead', WHERE WHAT IT READS IS OF BULK AT MOST 1048576: true; the input reads as it did. -/
def instrReadUptoRow : OpenClaim := { program := "ytdhkemnebppkhaa", sum := "9644748412ea64e45b5402fba055769b7f9ff3476f244028e46579a7de766983", func := "tumbrel/tumbrellaw24.InstrRead", spec := "instrRead", apart := false, narrowed := true }
def InstrReadUptoSaid : Prop := instrReadUptoRow.holds Try.pinned (OpenSpec.upto instrReadSpec)

/-- 'tumbrellaw24.InstrRow', WHERE WHAT IT READS IS OF BULK AT MOST 1048576: true; the input reads as it did. -/
def instrRowUptoRow : OpenClaim := { program := "ytdhkemnebppkhaa", sum := "9644748412ea64e45b5402fba055769b7f9ff3476f244028e46579a7de766983", func := "tumbrel/tumbrellaw24.InstrRow", spec := "instrRow", apart := false, narrowed := true }
def InstrRowUptoSaid : Prop := instrRowUptoRow.holds Try.pinned (OpenSpec.upto instrRowSpec)

/-- 'tumbrellaw25.ProgSame', WHERE WHAT IT READS IS OF BULK AT MOST 1048576: true; the input reads as it did. -/
def progSameUptoRow : OpenClaim := { program := "ytdhkemnebppkhaa", sum := "9644748412ea64e45b5402fba055769b7f9ff3476f244028e46579a7de766983", func := "tumbrel/tumbrellaw25.ProgSame", spec := "progSame", unfollowed := true, recurses := true, apart := false, narrowed := true }
def ProgSameUptoSaid : Prop := progSameUptoRow.holds Try.pinned (OpenSpec.upto progSameSpec)

/-- 'tumbrellaw25.ProgBytes', WHERE WHAT IT READS IS OF BULK AT MOST 1048576: true; the input reads as it did. -/
def progBytesUptoRow : OpenClaim := { program := "ytdhkemnebppkhaa", sum := "9644748412ea64e45b5402fba055769b7f9ff3476f244028e46579a7de766983", func := "tumbrel/tumbrellaw25.ProgBytes", spec := "progBytes", unfollowed := true, recurses := true, apart := false, narrowed := true }
def ProgBytesUptoSaid : Prop := progBytesUptoRow.holds Try.pinned (OpenSpec.upto progBytesSpec)

/-- 'tumbrellaw25.ProgRead', WHERE WHAT IT READS IS OF BULK AT MOST 1048576: true; the input reads as it did. -/
def progReadUptoRow : OpenClaim := { program := "ytdhkemnebppkhaa", sum := "9644748412ea64e45b5402fba055769b7f9ff3476f244028e46579a7de766983", func := "tumbrel/tumbrellaw25.ProgRead", spec := "progRead", unfollowed := true, recurses := true, apart := false, narrowed := true }
def ProgReadUptoSaid : Prop := progReadUptoRow.holds Try.pinned (OpenSpec.upto progReadSpec)

end Rows
end Go.Proofs.Ytdhkemnebppkhaa
