/-
  No cell of these rows narrows 'for every input' (looked for: loops, veiled, ifaces, maps, wideKeys, modest, calm, conditions, laid).
  DERIVED. THE GIVEN ROWS OF THIS SEAT. 4 by the template 'for every input the law returns true; each argument reads behind the call as it read before'; 0 by the template 'total and deterministic' (their statements: YtfbdnjmljdfjjaaTotals.lean).
  GIVEN WITH THE SEED: the statements are not yours to turn. If you find one false, say at which input.
  Laid BY PROGRAM, IN A SANDBOX (cutbox-rows.mjs): the forced cells as the released guide's own fill.sh prints them over the translation 133468e1d9fafa55… (all of the seat's roots in one cut). By AI agents, Wed Nov 11 2026. No macro, syntax, notation, axiom, sorry.
-/
import Derived.Test.YtfbdnjmljdfjjaaChecked
import GoSem.Claim
import GoSem.ClaimJoined
import GoSem.ClaimMapViews
import Derived.JoinedTies
import Derived.KernelRfl
namespace Go.Proofs.Ytfbdnjmljdfjjaa
/- THE CELL 'sum', in the pinned program and in every row, IS THE sha256 OF THE DUMP (.gsa) THAT YtfbdnjmljdfjjaaProg.lean LOADS. Nothing in Lean hashes anything: it is a label: what it is worth is what the hold of that sum in a sandbox is worth. -/
noncomputable def Try.pinned : Pinned := { name := "ytfbdnjmljdfjjaa", sum := "133468e1d9fafa55d5cf9a3ac844403e88f6980fbff248b61851f4c4e57601f7", checked := Try.checked }
namespace Rows
def none {H : Type} : Left H := { results := [], args := [] }

/-- 'tumbrellaw04.PagesWhole': WHATEVER THE INPUT: true; the input reads as it did. -/
def pagesWholeSpec : ChangeSpec := { name := "pagesWhole", fn := fun _ => fun
  | [d1, d2] => { results := [.lit (.bool true)], args := [d1, d2] }
  | _ => none }
def pagesWholeRow : OpenClaim := { program := "ytfbdnjmljdfjjaa", sum := "133468e1d9fafa55d5cf9a3ac844403e88f6980fbff248b61851f4c4e57601f7", func := "tumbrel/tumbrellaw04.PagesWhole", spec := "pagesWhole", apart := false }
def PagesWholeSaid : Prop := pagesWholeRow.holds Try.pinned (OpenSpec.ofChange pagesWholeSpec)

/-- ITS FALSE NEIGHBOUR: 'it returns false'. Refute it at one input. -/
def pagesWholeWrong : ChangeSpec := { name := "pagesWhole", fn := fun _ => fun
  | [d1, d2] => { results := [.lit (.bool false)], args := [d1, d2] }
  | _ => none }
def PagesWholeWrongFalsely : Prop := pagesWholeRow.holds Try.pinned (OpenSpec.ofChange pagesWholeWrong)

/-- 'tumbrellaw04.PagesPlays': WHATEVER THE INPUT: true; the input reads as it did. -/
def pagesPlaysSpec : ChangeSpec := { name := "pagesPlays", fn := fun _ => fun
  | [d1, d2] => { results := [.lit (.bool true)], args := [d1, d2] }
  | _ => none }
def pagesPlaysRow : OpenClaim := { program := "ytfbdnjmljdfjjaa", sum := "133468e1d9fafa55d5cf9a3ac844403e88f6980fbff248b61851f4c4e57601f7", func := "tumbrel/tumbrellaw04.PagesPlays", spec := "pagesPlays", apart := false }
def PagesPlaysSaid : Prop := pagesPlaysRow.holds Try.pinned (OpenSpec.ofChange pagesPlaysSpec)

/-- ITS FALSE NEIGHBOUR: 'it returns false'. Refute it at one input. -/
def pagesPlaysWrong : ChangeSpec := { name := "pagesPlays", fn := fun _ => fun
  | [d1, d2] => { results := [.lit (.bool false)], args := [d1, d2] }
  | _ => none }
def PagesPlaysWrongFalsely : Prop := pagesPlaysRow.holds Try.pinned (OpenSpec.ofChange pagesPlaysWrong)

/-- 'tumbrellaw04.PagesCounts': WHATEVER THE INPUT: true; the input reads as it did. -/
def pagesCountsSpec : ChangeSpec := { name := "pagesCounts", fn := fun _ => fun
  | [d1, d2, d3, d4, d5] => { results := [.lit (.bool true)], args := [d1, d2, d3, d4, d5] }
  | _ => none }
def pagesCountsRow : OpenClaim := { program := "ytfbdnjmljdfjjaa", sum := "133468e1d9fafa55d5cf9a3ac844403e88f6980fbff248b61851f4c4e57601f7", func := "tumbrel/tumbrellaw04.PagesCounts", spec := "pagesCounts", apart := false }
def PagesCountsSaid : Prop := pagesCountsRow.holds Try.pinned (OpenSpec.ofChange pagesCountsSpec)

/-- ITS FALSE NEIGHBOUR: 'it returns false'. Refute it at one input. -/
def pagesCountsWrong : ChangeSpec := { name := "pagesCounts", fn := fun _ => fun
  | [d1, d2, d3, d4, d5] => { results := [.lit (.bool false)], args := [d1, d2, d3, d4, d5] }
  | _ => none }
def PagesCountsWrongFalsely : Prop := pagesCountsRow.holds Try.pinned (OpenSpec.ofChange pagesCountsWrong)

/-- 'tumbrellaw04.PagesNil': WHATEVER THE INPUT: true; the input reads as it did. -/
def pagesNilSpec : ChangeSpec := { name := "pagesNil", fn := fun _ => fun
  | [d] => { results := [.lit (.bool true)], args := [d] }
  | _ => none }
def pagesNilRow : OpenClaim := { program := "ytfbdnjmljdfjjaa", sum := "133468e1d9fafa55d5cf9a3ac844403e88f6980fbff248b61851f4c4e57601f7", func := "tumbrel/tumbrellaw04.PagesNil", spec := "pagesNil", apart := false }
def PagesNilSaid : Prop := pagesNilRow.holds Try.pinned (OpenSpec.ofChange pagesNilSpec)

/-- ITS FALSE NEIGHBOUR: 'it returns false'. Refute it at one input. -/
def pagesNilWrong : ChangeSpec := { name := "pagesNil", fn := fun _ => fun
  | [d] => { results := [.lit (.bool false)], args := [d] }
  | _ => none }
def PagesNilWrongFalsely : Prop := pagesNilRow.holds Try.pinned (OpenSpec.ofChange pagesNilWrong)

/- THE SECOND FORM. 'bulk': how many values and letters a reading holds, each counted each time it is reached (what is shared counts as often as it is met; a slice's spare places count too). A statement '..UptoSaid' is the law's where the arguments, and the package variables that the reading takes, are together of bulk at most 1048576: NARROWER than '..Said'. Prove '..Said' where nothing that the law and all that it calls make is longer than what came in: it says more and counts as full. Else prove '..UptoSaid'. A law counts once. -/
mutual
def uptoBulk {H : Type} : DataW H → Nat
  | .lit (.string bytes) => bytes.length + 1
  | .lit _ => 1
  | .nil => 1
  | .ptr d => uptoBulk d + 1
  | .slice elems spare => uptoBulkAll elems + uptoBulkAll spare + 1
  | .agg parts => uptoBulkAll parts + 1
  | .iface _ d => uptoBulk d + 1
  | .map entries => uptoBulkEntries entries + 1
  | .held _ => 1
def uptoBulkAll {H : Type} : List (DataW H) → Nat
  | [] => 0
  | d :: r => uptoBulk d + uptoBulkAll r
def uptoBulkEntries {H : Type} : List (Lit × DataW H) → Nat
  | [] => 0
  | x :: r => uptoBulkEntry x + uptoBulkEntries r
def uptoBulkEntry {H : Type} : Lit × DataW H → Nat
  | (.string bytes, d) => bytes.length + uptoBulk d + 1
  | (_, d) => uptoBulk d + 1
 end
def uptoSmall : (H : Type) → List (DataW H) → Bool := fun _ ds => decide (uptoBulkAll ds ≤ 1048576)
def OpenSpec.upto (s : _root_.Go.ChangeSpec) : _root_.Go.OpenSpec := { _root_.Go.OpenSpec.ofChange s with cond := some uptoSmall }

/-- 'tumbrellaw04.PagesWhole', WHERE WHAT IT READS IS OF BULK AT MOST 1048576: true; the input reads as it did. -/
def pagesWholeUptoRow : OpenClaim := { program := "ytfbdnjmljdfjjaa", sum := "133468e1d9fafa55d5cf9a3ac844403e88f6980fbff248b61851f4c4e57601f7", func := "tumbrel/tumbrellaw04.PagesWhole", spec := "pagesWhole", apart := false, narrowed := true }
def PagesWholeUptoSaid : Prop := pagesWholeUptoRow.holds Try.pinned (OpenSpec.upto pagesWholeSpec)

/-- 'tumbrellaw04.PagesPlays', WHERE WHAT IT READS IS OF BULK AT MOST 1048576: true; the input reads as it did. -/
def pagesPlaysUptoRow : OpenClaim := { program := "ytfbdnjmljdfjjaa", sum := "133468e1d9fafa55d5cf9a3ac844403e88f6980fbff248b61851f4c4e57601f7", func := "tumbrel/tumbrellaw04.PagesPlays", spec := "pagesPlays", apart := false, narrowed := true }
def PagesPlaysUptoSaid : Prop := pagesPlaysUptoRow.holds Try.pinned (OpenSpec.upto pagesPlaysSpec)

/-- 'tumbrellaw04.PagesCounts', WHERE WHAT IT READS IS OF BULK AT MOST 1048576: true; the input reads as it did. -/
def pagesCountsUptoRow : OpenClaim := { program := "ytfbdnjmljdfjjaa", sum := "133468e1d9fafa55d5cf9a3ac844403e88f6980fbff248b61851f4c4e57601f7", func := "tumbrel/tumbrellaw04.PagesCounts", spec := "pagesCounts", apart := false, narrowed := true }
def PagesCountsUptoSaid : Prop := pagesCountsUptoRow.holds Try.pinned (OpenSpec.upto pagesCountsSpec)

/-- 'tumbrellaw04.PagesNil', WHERE WHAT IT READS IS OF BULK AT MOST 1048576: true; the input reads as it did. -/
def pagesNilUptoRow : OpenClaim := { program := "ytfbdnjmljdfjjaa", sum := "133468e1d9fafa55d5cf9a3ac844403e88f6980fbff248b61851f4c4e57601f7", func := "tumbrel/tumbrellaw04.PagesNil", spec := "pagesNil", apart := false, narrowed := true }
def PagesNilUptoSaid : Prop := pagesNilUptoRow.holds Try.pinned (OpenSpec.upto pagesNilSpec)

end Rows
end Go.Proofs.Ytfbdnjmljdfjjaa
