/-
  No cell of these rows narrows 'for every input' (looked for: loops, veiled, ifaces, maps, wideKeys, modest, calm, conditions, laid).
  DERIVED. THE GIVEN ROWS OF THIS SEAT. 10 by the template 'for every input the law returns true; each argument reads behind the call as it read before'; 0 by the template 'total and deterministic' (their statements: YtgbbnmjfkhconaaTotals.lean).
  GIVEN WITH THE SEED: the statements are not yours to turn. If you find one false, say at which input.
  Laid BY PROGRAM, IN A SANDBOX (cutbox-rows.mjs): the forced cells as the released guide's own fill.sh prints them over the translation c8b60afb94f03374… (all of the seat's roots in one cut). By AI agents, Wed Nov 11 2026. No macro, syntax, notation, axiom, sorry.
-/
import Derived.Test.YtgbbnmjfkhconaaChecked
import GoSem.Claim
import GoSem.ClaimJoined
import GoSem.ClaimMapViews
import Derived.JoinedTies
import Derived.KernelRfl
namespace Go.Proofs.Ytgbbnmjfkhconaa
/- THE CELL 'sum', in the pinned program and in every row, IS THE sha256 OF THE DUMP (.gsa) THAT YtgbbnmjfkhconaaProg.lean LOADS. Nothing in Lean hashes anything: it is a label: what it is worth is what the hold of that sum in a sandbox is worth. -/
noncomputable def Try.pinned : Pinned := { name := "ytgbbnmjfkhconaa", sum := "c8b60afb94f0337400adb1835657a8b1bfcc170c7e1bb6b825bed8b96a689e2c", checked := Try.checked }
namespace Rows
def none {H : Type} : Left H := { results := [], args := [] }

/-- 'tumbrellaw17.ObjectShapes': WHATEVER THE INPUT: true; the input reads as it did. -/
def objectShapesSpec : ChangeSpec := { name := "objectShapes", fn := fun _ => fun
  | [d] => { results := [.lit (.bool true)], args := [d] }
  | _ => none }
def objectShapesRow : OpenClaim := { program := "ytgbbnmjfkhconaa", sum := "c8b60afb94f0337400adb1835657a8b1bfcc170c7e1bb6b825bed8b96a689e2c", func := "tumbrel/tumbrellaw17.ObjectShapes", spec := "objectShapes", apart := false }
def ObjectShapesSaid : Prop := objectShapesRow.holds Try.pinned (OpenSpec.ofChange objectShapesSpec)

/-- ITS FALSE NEIGHBOUR: 'it returns false'. Refute it at one input. -/
def objectShapesWrong : ChangeSpec := { name := "objectShapes", fn := fun _ => fun
  | [d] => { results := [.lit (.bool false)], args := [d] }
  | _ => none }
def ObjectShapesWrongFalsely : Prop := objectShapesRow.holds Try.pinned (OpenSpec.ofChange objectShapesWrong)

/-- 'tumbrellaw03.ArenaWhole': WHATEVER THE INPUT: true; the input reads as it did. -/
def arenaWholeSpec : ChangeSpec := { name := "arenaWhole", fn := fun _ => fun
  | [d1, d2] => { results := [.lit (.bool true)], args := [d1, d2] }
  | _ => none }
def arenaWholeRow : OpenClaim := { program := "ytgbbnmjfkhconaa", sum := "c8b60afb94f0337400adb1835657a8b1bfcc170c7e1bb6b825bed8b96a689e2c", func := "tumbrel/tumbrellaw03.ArenaWhole", spec := "arenaWhole", unfollowed := true, recurses := true, apart := false }
def ArenaWholeSaid : Prop := arenaWholeRow.holds Try.pinned (OpenSpec.ofChange arenaWholeSpec)

/-- ITS FALSE NEIGHBOUR: 'it returns false'. Refute it at one input. -/
def arenaWholeWrong : ChangeSpec := { name := "arenaWhole", fn := fun _ => fun
  | [d1, d2] => { results := [.lit (.bool false)], args := [d1, d2] }
  | _ => none }
def ArenaWholeWrongFalsely : Prop := arenaWholeRow.holds Try.pinned (OpenSpec.ofChange arenaWholeWrong)

/-- 'tumbrellaw03.ArenaPlays': WHATEVER THE INPUT: true; the input reads as it did. -/
def arenaPlaysSpec : ChangeSpec := { name := "arenaPlays", fn := fun _ => fun
  | [d1, d2] => { results := [.lit (.bool true)], args := [d1, d2] }
  | _ => none }
def arenaPlaysRow : OpenClaim := { program := "ytgbbnmjfkhconaa", sum := "c8b60afb94f0337400adb1835657a8b1bfcc170c7e1bb6b825bed8b96a689e2c", func := "tumbrel/tumbrellaw03.ArenaPlays", spec := "arenaPlays", unfollowed := true, recurses := true, apart := false }
def ArenaPlaysSaid : Prop := arenaPlaysRow.holds Try.pinned (OpenSpec.ofChange arenaPlaysSpec)

/-- ITS FALSE NEIGHBOUR: 'it returns false'. Refute it at one input. -/
def arenaPlaysWrong : ChangeSpec := { name := "arenaPlays", fn := fun _ => fun
  | [d1, d2] => { results := [.lit (.bool false)], args := [d1, d2] }
  | _ => none }
def ArenaPlaysWrongFalsely : Prop := arenaPlaysRow.holds Try.pinned (OpenSpec.ofChange arenaPlaysWrong)

/-- 'tumbrellaw03.ArenaCopies': WHATEVER THE INPUT: true; the input reads as it did. -/
def arenaCopiesSpec : ChangeSpec := { name := "arenaCopies", fn := fun _ => fun
  | [d1, d2, d3] => { results := [.lit (.bool true)], args := [d1, d2, d3] }
  | _ => none }
def arenaCopiesRow : OpenClaim := { program := "ytgbbnmjfkhconaa", sum := "c8b60afb94f0337400adb1835657a8b1bfcc170c7e1bb6b825bed8b96a689e2c", func := "tumbrel/tumbrellaw03.ArenaCopies", spec := "arenaCopies", unfollowed := true, recurses := true, apart := false }
def ArenaCopiesSaid : Prop := arenaCopiesRow.holds Try.pinned (OpenSpec.ofChange arenaCopiesSpec)

/-- ITS FALSE NEIGHBOUR: 'it returns false'. Refute it at one input. -/
def arenaCopiesWrong : ChangeSpec := { name := "arenaCopies", fn := fun _ => fun
  | [d1, d2, d3] => { results := [.lit (.bool false)], args := [d1, d2, d3] }
  | _ => none }
def ArenaCopiesWrongFalsely : Prop := arenaCopiesRow.holds Try.pinned (OpenSpec.ofChange arenaCopiesWrong)

/-- 'tumbrellaw17.ObjectFields': WHATEVER THE INPUT: true; the input reads as it did. -/
def objectFieldsSpec : ChangeSpec := { name := "objectFields", fn := fun _ => fun
  | [d1, d2] => { results := [.lit (.bool true)], args := [d1, d2] }
  | _ => none }
def objectFieldsRow : OpenClaim := { program := "ytgbbnmjfkhconaa", sum := "c8b60afb94f0337400adb1835657a8b1bfcc170c7e1bb6b825bed8b96a689e2c", func := "tumbrel/tumbrellaw17.ObjectFields", spec := "objectFields", apart := false }
def ObjectFieldsSaid : Prop := objectFieldsRow.holds Try.pinned (OpenSpec.ofChange objectFieldsSpec)

/-- ITS FALSE NEIGHBOUR: 'it returns false'. Refute it at one input. -/
def objectFieldsWrong : ChangeSpec := { name := "objectFields", fn := fun _ => fun
  | [d1, d2] => { results := [.lit (.bool false)], args := [d1, d2] }
  | _ => none }
def ObjectFieldsWrongFalsely : Prop := objectFieldsRow.holds Try.pinned (OpenSpec.ofChange objectFieldsWrong)

/-- 'tumbrellaw17.ObjectPlays': WHATEVER THE INPUT: true; the input reads as it did. -/
def objectPlaysSpec : ChangeSpec := { name := "objectPlays", fn := fun _ => fun
  | [d1, d2] => { results := [.lit (.bool true)], args := [d1, d2] }
  | _ => none }
def objectPlaysRow : OpenClaim := { program := "ytgbbnmjfkhconaa", sum := "c8b60afb94f0337400adb1835657a8b1bfcc170c7e1bb6b825bed8b96a689e2c", func := "tumbrel/tumbrellaw17.ObjectPlays", spec := "objectPlays", apart := false }
def ObjectPlaysSaid : Prop := objectPlaysRow.holds Try.pinned (OpenSpec.ofChange objectPlaysSpec)

/-- ITS FALSE NEIGHBOUR: 'it returns false'. Refute it at one input. -/
def objectPlaysWrong : ChangeSpec := { name := "objectPlays", fn := fun _ => fun
  | [d1, d2] => { results := [.lit (.bool false)], args := [d1, d2] }
  | _ => none }
def ObjectPlaysWrongFalsely : Prop := objectPlaysRow.holds Try.pinned (OpenSpec.ofChange objectPlaysWrong)

/-- 'tumbrellaw07.SlabWhole': WHATEVER THE INPUT: true; the input reads as it did. -/
def slabWholeSpec : ChangeSpec := { name := "slabWhole", fn := fun _ => fun
  | [d1, d2, d3] => { results := [.lit (.bool true)], args := [d1, d2, d3] }
  | _ => none }
def slabWholeRow : OpenClaim := { program := "ytgbbnmjfkhconaa", sum := "c8b60afb94f0337400adb1835657a8b1bfcc170c7e1bb6b825bed8b96a689e2c", func := "tumbrel/tumbrellaw07.SlabWhole", spec := "slabWhole", unfollowed := true, recurses := true, apart := false }
def SlabWholeSaid : Prop := slabWholeRow.holds Try.pinned (OpenSpec.ofChange slabWholeSpec)

/-- ITS FALSE NEIGHBOUR: 'it returns false'. Refute it at one input. -/
def slabWholeWrong : ChangeSpec := { name := "slabWhole", fn := fun _ => fun
  | [d1, d2, d3] => { results := [.lit (.bool false)], args := [d1, d2, d3] }
  | _ => none }
def SlabWholeWrongFalsely : Prop := slabWholeRow.holds Try.pinned (OpenSpec.ofChange slabWholeWrong)

/-- 'tumbrellaw07.SlabOrder': WHATEVER THE INPUT: true; the input reads as it did. -/
def slabOrderSpec : ChangeSpec := { name := "slabOrder", fn := fun _ => fun
  | [d1, d2, d3] => { results := [.lit (.bool true)], args := [d1, d2, d3] }
  | _ => none }
def slabOrderRow : OpenClaim := { program := "ytgbbnmjfkhconaa", sum := "c8b60afb94f0337400adb1835657a8b1bfcc170c7e1bb6b825bed8b96a689e2c", func := "tumbrel/tumbrellaw07.SlabOrder", spec := "slabOrder", unfollowed := true, recurses := true, apart := false }
def SlabOrderSaid : Prop := slabOrderRow.holds Try.pinned (OpenSpec.ofChange slabOrderSpec)

/-- ITS FALSE NEIGHBOUR: 'it returns false'. Refute it at one input. -/
def slabOrderWrong : ChangeSpec := { name := "slabOrder", fn := fun _ => fun
  | [d1, d2, d3] => { results := [.lit (.bool false)], args := [d1, d2, d3] }
  | _ => none }
def SlabOrderWrongFalsely : Prop := slabOrderRow.holds Try.pinned (OpenSpec.ofChange slabOrderWrong)

/-- 'tumbrellaw07.SlabApart': WHATEVER THE INPUT: true; the input reads as it did. -/
def slabApartSpec : ChangeSpec := { name := "slabApart", fn := fun _ => fun
  | [d1, d2, d3, d4] => { results := [.lit (.bool true)], args := [d1, d2, d3, d4] }
  | _ => none }
def slabApartRow : OpenClaim := { program := "ytgbbnmjfkhconaa", sum := "c8b60afb94f0337400adb1835657a8b1bfcc170c7e1bb6b825bed8b96a689e2c", func := "tumbrel/tumbrellaw07.SlabApart", spec := "slabApart", unfollowed := true, recurses := true, apart := false }
def SlabApartSaid : Prop := slabApartRow.holds Try.pinned (OpenSpec.ofChange slabApartSpec)

/-- ITS FALSE NEIGHBOUR: 'it returns false'. Refute it at one input. -/
def slabApartWrong : ChangeSpec := { name := "slabApart", fn := fun _ => fun
  | [d1, d2, d3, d4] => { results := [.lit (.bool false)], args := [d1, d2, d3, d4] }
  | _ => none }
def SlabApartWrongFalsely : Prop := slabApartRow.holds Try.pinned (OpenSpec.ofChange slabApartWrong)

/-- 'tumbrellaw07.SlabMake': WHATEVER THE INPUT: true; the input reads as it did. -/
def slabMakeSpec : ChangeSpec := { name := "slabMake", fn := fun _ => fun
  | [d1, d2, d3, d4] => { results := [.lit (.bool true)], args := [d1, d2, d3, d4] }
  | _ => none }
def slabMakeRow : OpenClaim := { program := "ytgbbnmjfkhconaa", sum := "c8b60afb94f0337400adb1835657a8b1bfcc170c7e1bb6b825bed8b96a689e2c", func := "tumbrel/tumbrellaw07.SlabMake", spec := "slabMake", unfollowed := true, recurses := true, apart := false }
def SlabMakeSaid : Prop := slabMakeRow.holds Try.pinned (OpenSpec.ofChange slabMakeSpec)

/-- ITS FALSE NEIGHBOUR: 'it returns false'. Refute it at one input. -/
def slabMakeWrong : ChangeSpec := { name := "slabMake", fn := fun _ => fun
  | [d1, d2, d3, d4] => { results := [.lit (.bool false)], args := [d1, d2, d3, d4] }
  | _ => none }
def SlabMakeWrongFalsely : Prop := slabMakeRow.holds Try.pinned (OpenSpec.ofChange slabMakeWrong)

/- THE SECOND FORM. 'bulk': how many values and letters a reading holds, each counted each time it is reached (what is shared counts as often as it is met; a slice's spare places count too). A statement '..UptoSaid' is the law's where the arguments, and the package variables that the reading takes, are together of bulk at most 1048576: NARROWER than '..Said'. Prove '..Said' where nothing that the law and all that it calls make is longer than what came in: it says more and counts as full. Else prove '..UptoSaid'. A law counts once. -/
mutual
def uptoBulk {H : Type} : DataW H → Nat
  | .lit (.string bytes) => bytes.length + 1
  | .lit _ => 1
  | .nil => 1
  | .ptr d => uptoBulk d + 1
  | .slice elems spare => uptoBulkAll elems + uptoBulkAll spare + 1
  | .agg parts => uptoBulkAll parts + 1
  | .iface _ d => uptoBulk d + 1
  | .map entries => uptoBulkEntries entries + 1
  | .held _ => 1
def uptoBulkAll {H : Type} : List (DataW H) → Nat
  | [] => 0
  | d :: r => uptoBulk d + uptoBulkAll r
def uptoBulkEntries {H : Type} : List (Lit × DataW H) → Nat
  | [] => 0
  | x :: r => uptoBulkEntry x + uptoBulkEntries r
def uptoBulkEntry {H : Type} : Lit × DataW H → Nat
  | (.string bytes, d) => bytes.length + uptoBulk d + 1
  | (_, d) => uptoBulk d + 1
 end
def uptoSmall : (H : Type) → List (DataW H) → Bool := fun _ ds => decide (uptoBulkAll ds ≤ 1048576)
def OpenSpec.upto (s : _root_.Go.ChangeSpec) : _root_.Go.OpenSpec := { _root_.Go.OpenSpec.ofChange s with cond := some uptoSmall }

/-- 'tumbrellaw17.ObjectShapes', WHERE WHAT IT READS IS OF BULK AT MOST 1048576: true; the input reads as it did. -/
def objectShapesUptoRow : OpenClaim := { program := "ytgbbnmjfkhconaa", sum := "c8b60afb94f0337400adb1835657a8b1bfcc170c7e1bb6b825bed8b96a689e2c", func := "tumbrel/tumbrellaw17.ObjectShapes", spec := "objectShapes", apart := false, narrowed := true }
def ObjectShapesUptoSaid : Prop := objectShapesUptoRow.holds Try.pinned (OpenSpec.upto objectShapesSpec)

/-- 'tumbrellaw03.ArenaWhole', WHERE WHAT IT READS IS OF BULK AT MOST 1048576: true; the input reads as it did. -/
def arenaWholeUptoRow : OpenClaim := { program := "ytgbbnmjfkhconaa", sum := "c8b60afb94f0337400adb1835657a8b1bfcc170c7e1bb6b825bed8b96a689e2c", func := "tumbrel/tumbrellaw03.ArenaWhole", spec := "arenaWhole", unfollowed := true, recurses := true, apart := false, narrowed := true }
def ArenaWholeUptoSaid : Prop := arenaWholeUptoRow.holds Try.pinned (OpenSpec.upto arenaWholeSpec)

/-- 'tumbrellaw03.ArenaPlays', WHERE WHAT IT READS IS OF BULK AT MOST 1048576: true; the input reads as it did. -/
def arenaPlaysUptoRow : OpenClaim := { program := "ytgbbnmjfkhconaa", sum := "c8b60afb94f0337400adb1835657a8b1bfcc170c7e1bb6b825bed8b96a689e2c", func := "tumbrel/tumbrellaw03.ArenaPlays", spec := "arenaPlays", unfollowed := true, recurses := true, apart := false, narrowed := true }
def ArenaPlaysUptoSaid : Prop := arenaPlaysUptoRow.holds Try.pinned (OpenSpec.upto arenaPlaysSpec)

/-- 'tumbrellaw03.ArenaCopies', WHERE WHAT IT READS IS OF BULK AT MOST 1048576: true; the input reads as it did. -/
def arenaCopiesUptoRow : OpenClaim := { program := "ytgbbnmjfkhconaa", sum := "c8b60afb94f0337400adb1835657a8b1bfcc170c7e1bb6b825bed8b96a689e2c", func := "tumbrel/tumbrellaw03.ArenaCopies", spec := "arenaCopies", unfollowed := true, recurses := true, apart := false, narrowed := true }
def ArenaCopiesUptoSaid : Prop := arenaCopiesUptoRow.holds Try.pinned (OpenSpec.upto arenaCopiesSpec)

/-- 'tumbrellaw17.ObjectFields', WHERE WHAT IT READS IS OF BULK AT MOST 1048576: true; the input reads as it did. -/
def objectFieldsUptoRow : OpenClaim := { program := "ytgbbnmjfkhconaa", sum := "c8b60afb94f0337400adb1835657a8b1bfcc170c7e1bb6b825bed8b96a689e2c", func := "tumbrel/tumbrellaw17.ObjectFields", spec := "objectFields", apart := false, narrowed := true }
def ObjectFieldsUptoSaid : Prop := objectFieldsUptoRow.holds Try.pinned (OpenSpec.upto objectFieldsSpec)

/-- 'tumbrellaw17.ObjectPlays', WHERE WHAT IT READS IS OF BULK AT MOST 1048576: true; the input reads as it did. -/
def objectPlaysUptoRow : OpenClaim := { program := "ytgbbnmjfkhconaa", sum := "c8b60afb94f0337400adb1835657a8b1bfcc170c7e1bb6b825bed8b96a689e2c", func := "tumbrel/tumbrellaw17.ObjectPlays", spec := "objectPlays", apart := false, narrowed := true }
def ObjectPlaysUptoSaid : Prop := objectPlaysUptoRow.holds Try.pinned (OpenSpec.upto objectPlaysSpec)

/-- 'tumbrellaw07.SlabWhole', WHERE WHAT IT READS IS OF BULK AT MOST 1048576: true; the input reads as it did. -/
def slabWholeUptoRow : OpenClaim := { program := "ytgbbnmjfkhconaa", sum := "c8b60afb94f0337400adb1835657a8b1bfcc170c7e1bb6b825bed8b96a689e2c", func := "tumbrel/tumbrellaw07.SlabWhole", spec := "slabWhole", unfollowed := true, recurses := true, apart := false, narrowed := true }
def SlabWholeUptoSaid : Prop := slabWholeUptoRow.holds Try.pinned (OpenSpec.upto slabWholeSpec)

/-- 'tumbrellaw07.SlabOrder', WHERE WHAT IT READS IS OF BULK AT MOST 1048576: true; the input reads as it did. -/
def slabOrderUptoRow : OpenClaim := { program := "ytgbbnmjfkhconaa", sum := "c8b60afb94f0337400adb1835657a8b1bfcc170c7e1bb6b825bed8b96a689e2c", func := "tumbrel/tumbrellaw07.SlabOrder", spec := "slabOrder", unfollowed := true, recurses := true, apart := false, narrowed := true }
def SlabOrderUptoSaid : Prop := slabOrderUptoRow.holds Try.pinned (OpenSpec.upto slabOrderSpec)

/-- 'tumbrellaw07.SlabApart', WHERE WHAT IT READS IS OF BULK AT MOST 1048576: true; the input reads as it did. -/
def slabApartUptoRow : OpenClaim := { program := "ytgbbnmjfkhconaa", sum := "c8b60afb94f0337400adb1835657a8b1bfcc170c7e1bb6b825bed8b96a689e2c", func := "tumbrel/tumbrellaw07.SlabApart", spec := "slabApart", unfollowed := true, recurses := true, apart := false, narrowed := true }
def SlabApartUptoSaid : Prop := slabApartUptoRow.holds Try.pinned (OpenSpec.upto slabApartSpec)

/-- 'tumbrellaw07.SlabMake', WHERE WHAT IT READS IS OF BULK AT MOST 1048576: true; the input reads as it did. -/
def slabMakeUptoRow : OpenClaim := { program := "ytgbbnmjfkhconaa", sum := "c8b60afb94f0337400adb1835657a8b1bfcc170c7e1bb6b825bed8b96a689e2c", func := "tumbrel/tumbrellaw07.SlabMake", spec := "slabMake", unfollowed := true, recurses := true, apart := false, narrowed := true }
def SlabMakeUptoSaid : Prop := slabMakeUptoRow.holds Try.pinned (OpenSpec.upto slabMakeSpec)

end Rows
end Go.Proofs.Ytgbbnmjfkhconaa
