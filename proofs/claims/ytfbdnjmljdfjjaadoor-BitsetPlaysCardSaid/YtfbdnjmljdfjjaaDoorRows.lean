/-
  NARROWER THAN 'FOR EVERY INPUT', by the rows' own cells (each row's printed sentence says how): BitsetGoes: laid · BitsetSame: laid · BitsetPlays: laid · BitsetEnds: laid.
  DERIVED. THE GIVEN ROWS OF THIS SEAT. 4 by the template 'for every input the law returns true; each argument reads behind the call as it read before'; 0 by the template 'total and deterministic' (their statements: YtfbdnjmljdfjjaaDoorTotals.lean).
  GIVEN WITH THE SEED: the statements are not yours to turn. If you find one false, say at which input.
  Laid BY PROGRAM, IN A SANDBOX (cutbox-rows.mjs): the forced cells as the released guide's own fill.sh prints them over the translation 6ca985ace0fe2241… (all of the seat's roots in one cut). By AI agents, Wed Nov 11 2026. No macro, syntax, notation, axiom, sorry.
-/
import Derived.Test.YtfbdnjmljdfjjaaDoorChecked
import GoSem.Claim
import GoSem.ClaimJoined
import GoSem.ClaimMapViews
import Derived.JoinedTies
import Derived.KernelRfl
namespace Go.Proofs.YtfbdnjmljdfjjaaDoor
/- THE CELL 'sum', in the pinned program and in every row, IS THE sha256 OF THE DUMP (.gsa) THAT YtfbdnjmljdfjjaaDoorProg.lean LOADS. Nothing in Lean hashes anything: it is a label: what it is worth is what the hold of that sum in a sandbox is worth. -/
noncomputable def Tryd.pinned : Pinned := { name := "ytfbdnjmljdfjjaadoor", sum := "6ca985ace0fe224180b46ac1e4f33e1e94d266c4a9873d3805c63b6c9a1ce3bc", checked := Tryd.checked }
namespace Rows
def none {H : Type} : Left H := { results := [], args := [] }

/- WHAT THE LISTED PACKAGE-LEVEL VARIABLES READ AS WHEN THE CALL BEGINS. Each datum BY PROGRAM (the guide's laid-datum.mjs) off the statement by which the dump's own 'gosem.cut.vars' lays the variable. In a bare row this is a premise. The card (YtfbdnjmljdfjjaaDoorCards.lean) ties it to the program's text. -/
def laid_math_bits_deBruijn64tab {H : Type} : DataW H := .agg [.lit (.int .u8 0), .lit (.int .u8 1), .lit (.int .u8 56), .lit (.int .u8 2), .lit (.int .u8 57), .lit (.int .u8 49), .lit (.int .u8 28), .lit (.int .u8 3), .lit (.int .u8 61), .lit (.int .u8 58), .lit (.int .u8 42), .lit (.int .u8 50), .lit (.int .u8 38), .lit (.int .u8 29), .lit (.int .u8 17), .lit (.int .u8 4), .lit (.int .u8 62), .lit (.int .u8 47), .lit (.int .u8 59), .lit (.int .u8 36), .lit (.int .u8 45), .lit (.int .u8 43), .lit (.int .u8 51), .lit (.int .u8 22), .lit (.int .u8 53), .lit (.int .u8 39), .lit (.int .u8 33), .lit (.int .u8 30), .lit (.int .u8 24), .lit (.int .u8 18), .lit (.int .u8 12), .lit (.int .u8 5), .lit (.int .u8 63), .lit (.int .u8 55), .lit (.int .u8 48), .lit (.int .u8 27), .lit (.int .u8 60), .lit (.int .u8 41), .lit (.int .u8 37), .lit (.int .u8 16), .lit (.int .u8 46), .lit (.int .u8 35), .lit (.int .u8 44), .lit (.int .u8 21), .lit (.int .u8 52), .lit (.int .u8 32), .lit (.int .u8 23), .lit (.int .u8 11), .lit (.int .u8 54), .lit (.int .u8 26), .lit (.int .u8 40), .lit (.int .u8 15), .lit (.int .u8 34), .lit (.int .u8 20), .lit (.int .u8 31), .lit (.int .u8 10), .lit (.int .u8 25), .lit (.int .u8 14), .lit (.int .u8 19), .lit (.int .u8 9), .lit (.int .u8 13), .lit (.int .u8 8), .lit (.int .u8 7), .lit (.int .u8 6)]

/-- 'tumbrellaw02.BitsetGoes': WHATEVER THE INPUT: true; the input reads as it did. -/
def bitsetGoesSpec : ChangeSpec := { name := "bitsetGoes", fn := fun _ => fun
  | [d1, d2] => { results := [.lit (.bool true)], args := [d1, d2] }
  | _ => none }
def bitsetGoesRow : OpenClaim := { program := "ytfbdnjmljdfjjaadoor", sum := "6ca985ace0fe224180b46ac1e4f33e1e94d266c4a9873d3805c63b6c9a1ce3bc", func := "tumbrel/tumbrellaw02.BitsetGoes", spec := "bitsetGoes", named := ["math/bits.deBruijn64tab"], apart := false, laid := [("math/bits.deBruijn64tab", laid_math_bits_deBruijn64tab)] }
def BitsetGoesSaid : Prop := bitsetGoesRow.holds Tryd.pinned (OpenSpec.ofChange bitsetGoesSpec)

/-- ITS FALSE NEIGHBOUR: 'it returns false'. Refute it at one input. -/
def bitsetGoesWrong : ChangeSpec := { name := "bitsetGoes", fn := fun _ => fun
  | [d1, d2] => { results := [.lit (.bool false)], args := [d1, d2] }
  | _ => none }
def BitsetGoesWrongFalsely : Prop := bitsetGoesRow.holds Tryd.pinned (OpenSpec.ofChange bitsetGoesWrong)

/-- 'tumbrellaw02.BitsetSame': WHATEVER THE INPUT: true; the input reads as it did. -/
def bitsetSameSpec : ChangeSpec := { name := "bitsetSame", fn := fun _ => fun
  | [d1, d2] => { results := [.lit (.bool true)], args := [d1, d2] }
  | _ => none }
def bitsetSameRow : OpenClaim := { program := "ytfbdnjmljdfjjaadoor", sum := "6ca985ace0fe224180b46ac1e4f33e1e94d266c4a9873d3805c63b6c9a1ce3bc", func := "tumbrel/tumbrellaw02.BitsetSame", spec := "bitsetSame", named := ["math/bits.deBruijn64tab"], apart := false, laid := [("math/bits.deBruijn64tab", laid_math_bits_deBruijn64tab)] }
def BitsetSameSaid : Prop := bitsetSameRow.holds Tryd.pinned (OpenSpec.ofChange bitsetSameSpec)

/-- ITS FALSE NEIGHBOUR: 'it returns false'. Refute it at one input. -/
def bitsetSameWrong : ChangeSpec := { name := "bitsetSame", fn := fun _ => fun
  | [d1, d2] => { results := [.lit (.bool false)], args := [d1, d2] }
  | _ => none }
def BitsetSameWrongFalsely : Prop := bitsetSameRow.holds Tryd.pinned (OpenSpec.ofChange bitsetSameWrong)

/-- 'tumbrellaw02.BitsetPlays': WHATEVER THE INPUT: true; the input reads as it did. -/
def bitsetPlaysSpec : ChangeSpec := { name := "bitsetPlays", fn := fun _ => fun
  | [d1, d2] => { results := [.lit (.bool true)], args := [d1, d2] }
  | _ => none }
def bitsetPlaysRow : OpenClaim := { program := "ytfbdnjmljdfjjaadoor", sum := "6ca985ace0fe224180b46ac1e4f33e1e94d266c4a9873d3805c63b6c9a1ce3bc", func := "tumbrel/tumbrellaw02.BitsetPlays", spec := "bitsetPlays", named := ["math/bits.deBruijn64tab"], apart := false, laid := [("math/bits.deBruijn64tab", laid_math_bits_deBruijn64tab)] }
def BitsetPlaysSaid : Prop := bitsetPlaysRow.holds Tryd.pinned (OpenSpec.ofChange bitsetPlaysSpec)

/-- ITS FALSE NEIGHBOUR: 'it returns false'. Refute it at one input. -/
def bitsetPlaysWrong : ChangeSpec := { name := "bitsetPlays", fn := fun _ => fun
  | [d1, d2] => { results := [.lit (.bool false)], args := [d1, d2] }
  | _ => none }
def BitsetPlaysWrongFalsely : Prop := bitsetPlaysRow.holds Tryd.pinned (OpenSpec.ofChange bitsetPlaysWrong)

/-- 'tumbrellaw02.BitsetEnds': WHATEVER THE INPUT: true; the input reads as it did. -/
def bitsetEndsSpec : ChangeSpec := { name := "bitsetEnds", fn := fun _ => fun
  | [d] => { results := [.lit (.bool true)], args := [d] }
  | _ => none }
def bitsetEndsRow : OpenClaim := { program := "ytfbdnjmljdfjjaadoor", sum := "6ca985ace0fe224180b46ac1e4f33e1e94d266c4a9873d3805c63b6c9a1ce3bc", func := "tumbrel/tumbrellaw02.BitsetEnds", spec := "bitsetEnds", named := ["math/bits.deBruijn64tab"], apart := false, laid := [("math/bits.deBruijn64tab", laid_math_bits_deBruijn64tab)] }
def BitsetEndsSaid : Prop := bitsetEndsRow.holds Tryd.pinned (OpenSpec.ofChange bitsetEndsSpec)

/-- ITS FALSE NEIGHBOUR: 'it returns false'. Refute it at one input. -/
def bitsetEndsWrong : ChangeSpec := { name := "bitsetEnds", fn := fun _ => fun
  | [d] => { results := [.lit (.bool false)], args := [d] }
  | _ => none }
def BitsetEndsWrongFalsely : Prop := bitsetEndsRow.holds Tryd.pinned (OpenSpec.ofChange bitsetEndsWrong)

/- THE SECOND FORM. 'bulk': how many values and letters a reading holds, each counted each time it is reached (what is shared counts as often as it is met; a slice's spare places count too). A statement '..UptoSaid' is the law's where the arguments, and the package variables that the reading takes, are together of bulk at most 1048576: NARROWER than '..Said'. Prove '..Said' where nothing that the law and all that it calls make is longer than what came in: it says more and counts as full. Else prove '..UptoSaid'. A law counts once. -/
mutual
def uptoBulk {H : Type} : DataW H → Nat
  | .lit (.string bytes) => bytes.length + 1
  | .lit _ => 1
  | .nil => 1
  | .ptr d => uptoBulk d + 1
  | .slice elems spare => uptoBulkAll elems + uptoBulkAll spare + 1
  | .agg parts => uptoBulkAll parts + 1
  | .iface _ d => uptoBulk d + 1
  | .map entries => uptoBulkEntries entries + 1
  | .held _ => 1
def uptoBulkAll {H : Type} : List (DataW H) → Nat
  | [] => 0
  | d :: r => uptoBulk d + uptoBulkAll r
def uptoBulkEntries {H : Type} : List (Lit × DataW H) → Nat
  | [] => 0
  | x :: r => uptoBulkEntry x + uptoBulkEntries r
def uptoBulkEntry {H : Type} : Lit × DataW H → Nat
  | (.string bytes, d) => bytes.length + uptoBulk d + 1
  | (_, d) => uptoBulk d + 1
 end
def uptoSmall : (H : Type) → List (DataW H) → Bool := fun _ ds => decide (uptoBulkAll ds ≤ 1048576)
def OpenSpec.upto (s : _root_.Go.ChangeSpec) : _root_.Go.OpenSpec := { _root_.Go.OpenSpec.ofChange s with cond := some uptoSmall }

/-- 'tumbrellaw02.BitsetGoes', WHERE WHAT IT READS IS OF BULK AT MOST 1048576: true; the input reads as it did. -/
def bitsetGoesUptoRow : OpenClaim := { program := "ytfbdnjmljdfjjaadoor", sum := "6ca985ace0fe224180b46ac1e4f33e1e94d266c4a9873d3805c63b6c9a1ce3bc", func := "tumbrel/tumbrellaw02.BitsetGoes", spec := "bitsetGoes", named := ["math/bits.deBruijn64tab"], apart := false, laid := [("math/bits.deBruijn64tab", laid_math_bits_deBruijn64tab)], narrowed := true }
def BitsetGoesUptoSaid : Prop := bitsetGoesUptoRow.holds Tryd.pinned (OpenSpec.upto bitsetGoesSpec)

/-- 'tumbrellaw02.BitsetSame', WHERE WHAT IT READS IS OF BULK AT MOST 1048576: true; the input reads as it did. -/
def bitsetSameUptoRow : OpenClaim := { program := "ytfbdnjmljdfjjaadoor", sum := "6ca985ace0fe224180b46ac1e4f33e1e94d266c4a9873d3805c63b6c9a1ce3bc", func := "tumbrel/tumbrellaw02.BitsetSame", spec := "bitsetSame", named := ["math/bits.deBruijn64tab"], apart := false, laid := [("math/bits.deBruijn64tab", laid_math_bits_deBruijn64tab)], narrowed := true }
def BitsetSameUptoSaid : Prop := bitsetSameUptoRow.holds Tryd.pinned (OpenSpec.upto bitsetSameSpec)

/-- 'tumbrellaw02.BitsetPlays', WHERE WHAT IT READS IS OF BULK AT MOST 1048576: true; the input reads as it did. -/
def bitsetPlaysUptoRow : OpenClaim := { program := "ytfbdnjmljdfjjaadoor", sum := "6ca985ace0fe224180b46ac1e4f33e1e94d266c4a9873d3805c63b6c9a1ce3bc", func := "tumbrel/tumbrellaw02.BitsetPlays", spec := "bitsetPlays", named := ["math/bits.deBruijn64tab"], apart := false, laid := [("math/bits.deBruijn64tab", laid_math_bits_deBruijn64tab)], narrowed := true }
def BitsetPlaysUptoSaid : Prop := bitsetPlaysUptoRow.holds Tryd.pinned (OpenSpec.upto bitsetPlaysSpec)

/-- 'tumbrellaw02.BitsetEnds', WHERE WHAT IT READS IS OF BULK AT MOST 1048576: true; the input reads as it did. -/
def bitsetEndsUptoRow : OpenClaim := { program := "ytfbdnjmljdfjjaadoor", sum := "6ca985ace0fe224180b46ac1e4f33e1e94d266c4a9873d3805c63b6c9a1ce3bc", func := "tumbrel/tumbrellaw02.BitsetEnds", spec := "bitsetEnds", named := ["math/bits.deBruijn64tab"], apart := false, laid := [("math/bits.deBruijn64tab", laid_math_bits_deBruijn64tab)], narrowed := true }
def BitsetEndsUptoSaid : Prop := bitsetEndsUptoRow.holds Tryd.pinned (OpenSpec.upto bitsetEndsSpec)

end Rows
end Go.Proofs.YtfbdnjmljdfjjaaDoor
