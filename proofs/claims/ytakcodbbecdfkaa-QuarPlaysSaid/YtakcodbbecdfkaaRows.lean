/-
  No cell of these rows narrows 'for every input' (looked for: loops, veiled, ifaces, maps, wideKeys, modest, calm, conditions, laid).
  DERIVED. THE GIVEN ROWS OF THIS SEAT. 12 by the template 'for every input the law returns true; each argument reads behind the call as it read before'; 0 by the template 'total and deterministic' (their statements: YtakcodbbecdfkaaTotals.lean).
  GIVEN WITH THE SEED: the statements are not yours to turn. If you find one false, say at which input.
  Laid BY PROGRAM, IN A SANDBOX (cutbox-rows.mjs): the forced cells as the released guide's own fill.sh prints them over the translation c5893ea4ea86574a… (all of the seat's roots in one cut). By AI agents, Wed Nov 11 2026. No macro, syntax, notation, axiom, sorry.
-/
import Derived.Test.YtakcodbbecdfkaaChecked
import GoSem.Claim
import GoSem.ClaimJoined
import GoSem.ClaimMapViews
import Derived.JoinedTies
import Derived.KernelRfl
namespace Go.Proofs.Ytakcodbbecdfkaa
/- THE CELL 'sum', in the pinned program and in every row, IS THE sha256 OF THE DUMP (.gsa) THAT YtakcodbbecdfkaaProg.lean LOADS. Nothing in Lean hashes anything: it is a label: what it is worth is what the hold of that sum in a sandbox is worth. -/
noncomputable def Try.pinned : Pinned := { name := "ytakcodbbecdfkaa", sum := "c5893ea4ea86574a5cc0e5742622a51b301204581f45bfa5233c8d757564495c", checked := Try.checked }
namespace Rows
def none {H : Type} : Left H := { results := [], args := [] }

/-- 'tumbrellaw06.LinkBack': WHATEVER THE INPUT: true; the input reads as it did. -/
def linkBackSpec : ChangeSpec := { name := "linkBack", fn := fun _ => fun
  | [d1, d2, d3] => { results := [.lit (.bool true)], args := [d1, d2, d3] }
  | _ => none }
def linkBackRow : OpenClaim := { program := "ytakcodbbecdfkaa", sum := "c5893ea4ea86574a5cc0e5742622a51b301204581f45bfa5233c8d757564495c", func := "tumbrel/tumbrellaw06.LinkBack", spec := "linkBack", apart := false }
def LinkBackSaid : Prop := linkBackRow.holds Try.pinned (OpenSpec.ofChange linkBackSpec)

/-- ITS FALSE NEIGHBOUR: 'it returns false'. Refute it at one input. -/
def linkBackWrong : ChangeSpec := { name := "linkBack", fn := fun _ => fun
  | [d1, d2, d3] => { results := [.lit (.bool false)], args := [d1, d2, d3] }
  | _ => none }
def LinkBackWrongFalsely : Prop := linkBackRow.holds Try.pinned (OpenSpec.ofChange linkBackWrong)

/-- 'tumbrellaw06.LinkGet': WHATEVER THE INPUT: true; the input reads as it did. -/
def linkGetSpec : ChangeSpec := { name := "linkGet", fn := fun _ => fun
  | [d1, d2, d3, d4, d5] => { results := [.lit (.bool true)], args := [d1, d2, d3, d4, d5] }
  | _ => none }
def linkGetRow : OpenClaim := { program := "ytakcodbbecdfkaa", sum := "c5893ea4ea86574a5cc0e5742622a51b301204581f45bfa5233c8d757564495c", func := "tumbrel/tumbrellaw06.LinkGet", spec := "linkGet", apart := false }
def LinkGetSaid : Prop := linkGetRow.holds Try.pinned (OpenSpec.ofChange linkGetSpec)

/-- ITS FALSE NEIGHBOUR: 'it returns false'. Refute it at one input. -/
def linkGetWrong : ChangeSpec := { name := "linkGet", fn := fun _ => fun
  | [d1, d2, d3, d4, d5] => { results := [.lit (.bool false)], args := [d1, d2, d3, d4, d5] }
  | _ => none }
def LinkGetWrongFalsely : Prop := linkGetRow.holds Try.pinned (OpenSpec.ofChange linkGetWrong)

/-- 'tumbrellaw06.LinkApart': WHATEVER THE INPUT: true; the input reads as it did. -/
def linkApartSpec : ChangeSpec := { name := "linkApart", fn := fun _ => fun
  | [d1, d2, d3, d4, d5] => { results := [.lit (.bool true)], args := [d1, d2, d3, d4, d5] }
  | _ => none }
def linkApartRow : OpenClaim := { program := "ytakcodbbecdfkaa", sum := "c5893ea4ea86574a5cc0e5742622a51b301204581f45bfa5233c8d757564495c", func := "tumbrel/tumbrellaw06.LinkApart", spec := "linkApart", apart := false }
def LinkApartSaid : Prop := linkApartRow.holds Try.pinned (OpenSpec.ofChange linkApartSpec)

/-- ITS FALSE NEIGHBOUR: 'it returns false'. Refute it at one input. -/
def linkApartWrong : ChangeSpec := { name := "linkApart", fn := fun _ => fun
  | [d1, d2, d3, d4, d5] => { results := [.lit (.bool false)], args := [d1, d2, d3, d4, d5] }
  | _ => none }
def LinkApartWrongFalsely : Prop := linkApartRow.holds Try.pinned (OpenSpec.ofChange linkApartWrong)

/-- 'tumbrellaw06.LinkPut': WHATEVER THE INPUT: true; the input reads as it did. -/
def linkPutSpec : ChangeSpec := { name := "linkPut", fn := fun _ => fun
  | [d1, d2, d3] => { results := [.lit (.bool true)], args := [d1, d2, d3] }
  | _ => none }
def linkPutRow : OpenClaim := { program := "ytakcodbbecdfkaa", sum := "c5893ea4ea86574a5cc0e5742622a51b301204581f45bfa5233c8d757564495c", func := "tumbrel/tumbrellaw06.LinkPut", spec := "linkPut", apart := false }
def LinkPutSaid : Prop := linkPutRow.holds Try.pinned (OpenSpec.ofChange linkPutSpec)

/-- ITS FALSE NEIGHBOUR: 'it returns false'. Refute it at one input. -/
def linkPutWrong : ChangeSpec := { name := "linkPut", fn := fun _ => fun
  | [d1, d2, d3] => { results := [.lit (.bool false)], args := [d1, d2, d3] }
  | _ => none }
def LinkPutWrongFalsely : Prop := linkPutRow.holds Try.pinned (OpenSpec.ofChange linkPutWrong)

/-- 'tumbrellaw11.QuarOrder': WHATEVER THE INPUT: true; the input reads as it did. -/
def quarOrderSpec : ChangeSpec := { name := "quarOrder", fn := fun _ => fun
  | [d1, d2] => { results := [.lit (.bool true)], args := [d1, d2] }
  | _ => none }
def quarOrderRow : OpenClaim := { program := "ytakcodbbecdfkaa", sum := "c5893ea4ea86574a5cc0e5742622a51b301204581f45bfa5233c8d757564495c", func := "tumbrel/tumbrellaw11.QuarOrder", spec := "quarOrder", apart := false }
def QuarOrderSaid : Prop := quarOrderRow.holds Try.pinned (OpenSpec.ofChange quarOrderSpec)

/-- ITS FALSE NEIGHBOUR: 'it returns false'. Refute it at one input. -/
def quarOrderWrong : ChangeSpec := { name := "quarOrder", fn := fun _ => fun
  | [d1, d2] => { results := [.lit (.bool false)], args := [d1, d2] }
  | _ => none }
def QuarOrderWrongFalsely : Prop := quarOrderRow.holds Try.pinned (OpenSpec.ofChange quarOrderWrong)

/-- 'tumbrellaw05.ClassSizes': WHATEVER THE INPUT: true; the input reads as it did. -/
def classSizesSpec : ChangeSpec := { name := "classSizes", fn := fun _ => fun
  | [d] => { results := [.lit (.bool true)], args := [d] }
  | _ => none }
def classSizesRow : OpenClaim := { program := "ytakcodbbecdfkaa", sum := "c5893ea4ea86574a5cc0e5742622a51b301204581f45bfa5233c8d757564495c", func := "tumbrel/tumbrellaw05.ClassSizes", spec := "classSizes", apart := false }
def ClassSizesSaid : Prop := classSizesRow.holds Try.pinned (OpenSpec.ofChange classSizesSpec)

/-- ITS FALSE NEIGHBOUR: 'it returns false'. Refute it at one input. -/
def classSizesWrong : ChangeSpec := { name := "classSizes", fn := fun _ => fun
  | [d] => { results := [.lit (.bool false)], args := [d] }
  | _ => none }
def ClassSizesWrongFalsely : Prop := classSizesRow.holds Try.pinned (OpenSpec.ofChange classSizesWrong)

/-- 'tumbrellaw05.ClassOf': WHATEVER THE INPUT: true; the input reads as it did. -/
def classOfSpec : ChangeSpec := { name := "classOf", fn := fun _ => fun
  | [d] => { results := [.lit (.bool true)], args := [d] }
  | _ => none }
def classOfRow : OpenClaim := { program := "ytakcodbbecdfkaa", sum := "c5893ea4ea86574a5cc0e5742622a51b301204581f45bfa5233c8d757564495c", func := "tumbrel/tumbrellaw05.ClassOf", spec := "classOf", apart := false }
def ClassOfSaid : Prop := classOfRow.holds Try.pinned (OpenSpec.ofChange classOfSpec)

/-- ITS FALSE NEIGHBOUR: 'it returns false'. Refute it at one input. -/
def classOfWrong : ChangeSpec := { name := "classOf", fn := fun _ => fun
  | [d] => { results := [.lit (.bool false)], args := [d] }
  | _ => none }
def ClassOfWrongFalsely : Prop := classOfRow.holds Try.pinned (OpenSpec.ofChange classOfWrong)

/-- 'tumbrellaw05.ClassBase': WHATEVER THE INPUT: true; the input reads as it did. -/
def classBaseSpec : ChangeSpec := { name := "classBase", fn := fun _ => fun
  | [d1, d2, d3, d4] => { results := [.lit (.bool true)], args := [d1, d2, d3, d4] }
  | _ => none }
def classBaseRow : OpenClaim := { program := "ytakcodbbecdfkaa", sum := "c5893ea4ea86574a5cc0e5742622a51b301204581f45bfa5233c8d757564495c", func := "tumbrel/tumbrellaw05.ClassBase", spec := "classBase", apart := false }
def ClassBaseSaid : Prop := classBaseRow.holds Try.pinned (OpenSpec.ofChange classBaseSpec)

/-- ITS FALSE NEIGHBOUR: 'it returns false'. Refute it at one input. -/
def classBaseWrong : ChangeSpec := { name := "classBase", fn := fun _ => fun
  | [d1, d2, d3, d4] => { results := [.lit (.bool false)], args := [d1, d2, d3, d4] }
  | _ => none }
def ClassBaseWrongFalsely : Prop := classBaseRow.holds Try.pinned (OpenSpec.ofChange classBaseWrong)

/-- 'tumbrellaw05.ClassSlot': WHATEVER THE INPUT: true; the input reads as it did. -/
def classSlotSpec : ChangeSpec := { name := "classSlot", fn := fun _ => fun
  | [d1, d2] => { results := [.lit (.bool true)], args := [d1, d2] }
  | _ => none }
def classSlotRow : OpenClaim := { program := "ytakcodbbecdfkaa", sum := "c5893ea4ea86574a5cc0e5742622a51b301204581f45bfa5233c8d757564495c", func := "tumbrel/tumbrellaw05.ClassSlot", spec := "classSlot", apart := false }
def ClassSlotSaid : Prop := classSlotRow.holds Try.pinned (OpenSpec.ofChange classSlotSpec)

/-- ITS FALSE NEIGHBOUR: 'it returns false'. Refute it at one input. -/
def classSlotWrong : ChangeSpec := { name := "classSlot", fn := fun _ => fun
  | [d1, d2] => { results := [.lit (.bool false)], args := [d1, d2] }
  | _ => none }
def ClassSlotWrongFalsely : Prop := classSlotRow.holds Try.pinned (OpenSpec.ofChange classSlotWrong)

/-- 'tumbrellaw05.ClassLeast': WHATEVER THE INPUT: true; the input reads as it did. -/
def classLeastSpec : ChangeSpec := { name := "classLeast", fn := fun _ => fun
  | [d] => { results := [.lit (.bool true)], args := [d] }
  | _ => none }
def classLeastRow : OpenClaim := { program := "ytakcodbbecdfkaa", sum := "c5893ea4ea86574a5cc0e5742622a51b301204581f45bfa5233c8d757564495c", func := "tumbrel/tumbrellaw05.ClassLeast", spec := "classLeast", apart := false }
def ClassLeastSaid : Prop := classLeastRow.holds Try.pinned (OpenSpec.ofChange classLeastSpec)

/-- ITS FALSE NEIGHBOUR: 'it returns false'. Refute it at one input. -/
def classLeastWrong : ChangeSpec := { name := "classLeast", fn := fun _ => fun
  | [d] => { results := [.lit (.bool false)], args := [d] }
  | _ => none }
def ClassLeastWrongFalsely : Prop := classLeastRow.holds Try.pinned (OpenSpec.ofChange classLeastWrong)

/-- 'tumbrellaw11.QuarPlays': WHATEVER THE INPUT: true; the input reads as it did. -/
def quarPlaysSpec : ChangeSpec := { name := "quarPlays", fn := fun _ => fun
  | [d1, d2] => { results := [.lit (.bool true)], args := [d1, d2] }
  | _ => none }
def quarPlaysRow : OpenClaim := { program := "ytakcodbbecdfkaa", sum := "c5893ea4ea86574a5cc0e5742622a51b301204581f45bfa5233c8d757564495c", func := "tumbrel/tumbrellaw11.QuarPlays", spec := "quarPlays", apart := false }
def QuarPlaysSaid : Prop := quarPlaysRow.holds Try.pinned (OpenSpec.ofChange quarPlaysSpec)

/-- ITS FALSE NEIGHBOUR: 'it returns false'. Refute it at one input. -/
def quarPlaysWrong : ChangeSpec := { name := "quarPlays", fn := fun _ => fun
  | [d1, d2] => { results := [.lit (.bool false)], args := [d1, d2] }
  | _ => none }
def QuarPlaysWrongFalsely : Prop := quarPlaysRow.holds Try.pinned (OpenSpec.ofChange quarPlaysWrong)

/-- 'tumbrellaw11.QuarNil': WHATEVER THE INPUT: true; the input reads as it did. -/
def quarNilSpec : ChangeSpec := { name := "quarNil", fn := fun _ => fun
  | [d] => { results := [.lit (.bool true)], args := [d] }
  | _ => none }
def quarNilRow : OpenClaim := { program := "ytakcodbbecdfkaa", sum := "c5893ea4ea86574a5cc0e5742622a51b301204581f45bfa5233c8d757564495c", func := "tumbrel/tumbrellaw11.QuarNil", spec := "quarNil", apart := false }
def QuarNilSaid : Prop := quarNilRow.holds Try.pinned (OpenSpec.ofChange quarNilSpec)

/-- ITS FALSE NEIGHBOUR: 'it returns false'. Refute it at one input. -/
def quarNilWrong : ChangeSpec := { name := "quarNil", fn := fun _ => fun
  | [d] => { results := [.lit (.bool false)], args := [d] }
  | _ => none }
def QuarNilWrongFalsely : Prop := quarNilRow.holds Try.pinned (OpenSpec.ofChange quarNilWrong)

/- THE SECOND FORM. 'bulk': how many values and letters a reading holds, each counted each time it is reached (what is shared counts as often as it is met; a slice's spare places count too). A statement '..UptoSaid' is the law's where the arguments, and the package variables that the reading takes, are together of bulk at most 1048576: NARROWER than '..Said'. Prove '..Said' where nothing that the law and all that it calls make is longer than what came in: it says more and counts as full. Else prove '..UptoSaid'. A law counts once. -/
mutual
def uptoBulk {H : Type} : DataW H → Nat
  | .lit (.string bytes) => bytes.length + 1
  | .lit _ => 1
  | .nil => 1
  | .ptr d => uptoBulk d + 1
  | .slice elems spare => uptoBulkAll elems + uptoBulkAll spare + 1
  | .agg parts => uptoBulkAll parts + 1
  | .iface _ d => uptoBulk d + 1
  | .map entries => uptoBulkEntries entries + 1
  | .held _ => 1
def uptoBulkAll {H : Type} : List (DataW H) → Nat
  | [] => 0
  | d :: r => uptoBulk d + uptoBulkAll r
def uptoBulkEntries {H : Type} : List (Lit × DataW H) → Nat
  | [] => 0
  | x :: r => uptoBulkEntry x + uptoBulkEntries r
def uptoBulkEntry {H : Type} : Lit × DataW H → Nat
  | (.string bytes, d) => bytes.length + uptoBulk d + 1
  | (_, d) => uptoBulk d + 1
 end
def uptoSmall : (H : Type) → List (DataW H) → Bool := fun _ ds => decide (uptoBulkAll ds ≤ 1048576)
def OpenSpec.upto (s : _root_.Go.ChangeSpec) : _root_.Go.OpenSpec := { _root_.Go.OpenSpec.ofChange s with cond := some uptoSmall }

/-- 'tumbrellaw06.LinkBack', WHERE WHAT IT READS IS OF BULK AT MOST 1048576: true; the input reads as it did. -/
def linkBackUptoRow : OpenClaim := { program := "ytakcodbbecdfkaa", sum := "c5893ea4ea86574a5cc0e5742622a51b301204581f45bfa5233c8d757564495c", func := "tumbrel/tumbrellaw06.LinkBack", spec := "linkBack", apart := false, narrowed := true }
def LinkBackUptoSaid : Prop := linkBackUptoRow.holds Try.pinned (OpenSpec.upto linkBackSpec)

/-- 'tumbrellaw06.LinkGet', WHERE WHAT IT READS IS OF BULK AT MOST 1048576: true; the input reads as it did. -/
def linkGetUptoRow : OpenClaim := { program := "ytakcodbbecdfkaa", sum := "c5893ea4ea86574a5cc0e5742622a51b301204581f45bfa5233c8d757564495c", func := "tumbrel/tumbrellaw06.LinkGet", spec := "linkGet", apart := false, narrowed := true }
def LinkGetUptoSaid : Prop := linkGetUptoRow.holds Try.pinned (OpenSpec.upto linkGetSpec)

/-- 'tumbrellaw06.LinkApart', WHERE WHAT IT READS IS OF BULK AT MOST 1048576: true; the input reads as it did. -/
def linkApartUptoRow : OpenClaim := { program := "ytakcodbbecdfkaa", sum := "c5893ea4ea86574a5cc0e5742622a51b301204581f45bfa5233c8d757564495c", func := "tumbrel/tumbrellaw06.LinkApart", spec := "linkApart", apart := false, narrowed := true }
def LinkApartUptoSaid : Prop := linkApartUptoRow.holds Try.pinned (OpenSpec.upto linkApartSpec)

/-- 'tumbrellaw06.LinkPut', WHERE WHAT IT READS IS OF BULK AT MOST 1048576: true; the input reads as it did. -/
def linkPutUptoRow : OpenClaim := { program := "ytakcodbbecdfkaa", sum := "c5893ea4ea86574a5cc0e5742622a51b301204581f45bfa5233c8d757564495c", func := "tumbrel/tumbrellaw06.LinkPut", spec := "linkPut", apart := false, narrowed := true }
def LinkPutUptoSaid : Prop := linkPutUptoRow.holds Try.pinned (OpenSpec.upto linkPutSpec)

/-- 'tumbrellaw11.QuarOrder', WHERE WHAT IT READS IS OF BULK AT MOST 1048576: true; the input reads as it did. -/
def quarOrderUptoRow : OpenClaim := { program := "ytakcodbbecdfkaa", sum := "c5893ea4ea86574a5cc0e5742622a51b301204581f45bfa5233c8d757564495c", func := "tumbrel/tumbrellaw11.QuarOrder", spec := "quarOrder", apart := false, narrowed := true }
def QuarOrderUptoSaid : Prop := quarOrderUptoRow.holds Try.pinned (OpenSpec.upto quarOrderSpec)

/-- 'tumbrellaw05.ClassSizes', WHERE WHAT IT READS IS OF BULK AT MOST 1048576: true; the input reads as it did. -/
def classSizesUptoRow : OpenClaim := { program := "ytakcodbbecdfkaa", sum := "c5893ea4ea86574a5cc0e5742622a51b301204581f45bfa5233c8d757564495c", func := "tumbrel/tumbrellaw05.ClassSizes", spec := "classSizes", apart := false, narrowed := true }
def ClassSizesUptoSaid : Prop := classSizesUptoRow.holds Try.pinned (OpenSpec.upto classSizesSpec)

/-- 'tumbrellaw05.ClassOf', WHERE WHAT IT READS IS OF BULK AT MOST 1048576: true; the input reads as it did. -/
def classOfUptoRow : OpenClaim := { program := "ytakcodbbecdfkaa", sum := "c5893ea4ea86574a5cc0e5742622a51b301204581f45bfa5233c8d757564495c", func := "tumbrel/tumbrellaw05.ClassOf", spec := "classOf", apart := false, narrowed := true }
def ClassOfUptoSaid : Prop := classOfUptoRow.holds Try.pinned (OpenSpec.upto classOfSpec)

/-- 'tumbrellaw05.ClassBase', WHERE WHAT IT READS IS OF BULK AT MOST 1048576: true; the input reads as it did. -/
def classBaseUptoRow : OpenClaim := { program := "ytakcodbbecdfkaa", sum := "c5893ea4ea86574a5cc0e5742622a51b301204581f45bfa5233c8d757564495c", func := "tumbrel/tumbrellaw05.ClassBase", spec := "classBase", apart := false, narrowed := true }
def ClassBaseUptoSaid : Prop := classBaseUptoRow.holds Try.pinned (OpenSpec.upto classBaseSpec)

/-- 'tumbrellaw05.ClassSlot', WHERE WHAT IT READS IS OF BULK AT MOST 1048576: true; the input reads as it did. -/
def classSlotUptoRow : OpenClaim := { program := "ytakcodbbecdfkaa", sum := "c5893ea4ea86574a5cc0e5742622a51b301204581f45bfa5233c8d757564495c", func := "tumbrel/tumbrellaw05.ClassSlot", spec := "classSlot", apart := false, narrowed := true }
def ClassSlotUptoSaid : Prop := classSlotUptoRow.holds Try.pinned (OpenSpec.upto classSlotSpec)

/-- 'tumbrellaw05.ClassLeast', WHERE WHAT IT READS IS OF BULK AT MOST 1048576: true; the input reads as it did. -/
def classLeastUptoRow : OpenClaim := { program := "ytakcodbbecdfkaa", sum := "c5893ea4ea86574a5cc0e5742622a51b301204581f45bfa5233c8d757564495c", func := "tumbrel/tumbrellaw05.ClassLeast", spec := "classLeast", apart := false, narrowed := true }
def ClassLeastUptoSaid : Prop := classLeastUptoRow.holds Try.pinned (OpenSpec.upto classLeastSpec)

/-- 'tumbrellaw11.QuarPlays', WHERE WHAT IT READS IS OF BULK AT MOST 1048576: true; the input reads as it did. -/
def quarPlaysUptoRow : OpenClaim := { program := "ytakcodbbecdfkaa", sum := "c5893ea4ea86574a5cc0e5742622a51b301204581f45bfa5233c8d757564495c", func := "tumbrel/tumbrellaw11.QuarPlays", spec := "quarPlays", apart := false, narrowed := true }
def QuarPlaysUptoSaid : Prop := quarPlaysUptoRow.holds Try.pinned (OpenSpec.upto quarPlaysSpec)

/-- 'tumbrellaw11.QuarNil', WHERE WHAT IT READS IS OF BULK AT MOST 1048576: true; the input reads as it did. -/
def quarNilUptoRow : OpenClaim := { program := "ytakcodbbecdfkaa", sum := "c5893ea4ea86574a5cc0e5742622a51b301204581f45bfa5233c8d757564495c", func := "tumbrel/tumbrellaw11.QuarNil", spec := "quarNil", apart := false, narrowed := true }
def QuarNilUptoSaid : Prop := quarNilUptoRow.holds Try.pinned (OpenSpec.upto quarNilSpec)

end Rows
end Go.Proofs.Ytakcodbbecdfkaa
