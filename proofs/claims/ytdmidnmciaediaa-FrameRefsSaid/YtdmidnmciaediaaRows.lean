/-
  No cell of these rows narrows 'for every input' (looked for: loops, veiled, ifaces, maps, wideKeys, modest, calm, conditions, laid).
  DERIVED. THE GIVEN ROWS OF THIS SEAT. 12 by the template 'for every input the law returns true; each argument reads behind the call as it read before'; 0 by the template 'total and deterministic' (their statements: YtdmidnmciaediaaTotals.lean).
  GIVEN WITH THE SEED: the statements are not yours to turn. If you find one false, say at which input.
  Laid BY PROGRAM, IN A SANDBOX (cutbox-rows.mjs): the forced cells as the released guide's own fill.sh prints them over the translation 309998343654d0be… (all of the seat's roots in one cut). By AI agents, Wed Nov 11 2026. No macro, syntax, notation, axiom, sorry.
-/
import Derived.Test.YtdmidnmciaediaaChecked
import GoSem.Claim
import GoSem.ClaimJoined
import GoSem.ClaimMapViews
import Derived.JoinedTies
import Derived.KernelRfl
namespace Go.Proofs.Ytdmidnmciaediaa
/- THE CELL 'sum', in the pinned program and in every row, IS THE sha256 OF THE DUMP (.gsa) THAT YtdmidnmciaediaaProg.lean LOADS. Nothing in Lean hashes anything: it is a label: what it is worth is what the hold of that sum in a sandbox is worth. -/
noncomputable def Try.pinned : Pinned := { name := "ytdmidnmciaediaa", sum := "309998343654d0be620f771677b86bde2eb3cb3336ea106dca8c7a4f846590e0", checked := Try.checked }
namespace Rows
def none {H : Type} : Left H := { results := [], args := [] }

/-- 'tumbrellaw28.FrameDeep': WHATEVER THE INPUT: true; the input reads as it did. -/
def frameDeepSpec : ChangeSpec := { name := "frameDeep", fn := fun _ => fun
  | [d1, d2, d3] => { results := [.lit (.bool true)], args := [d1, d2, d3] }
  | _ => none }
def frameDeepRow : OpenClaim := { program := "ytdmidnmciaediaa", sum := "309998343654d0be620f771677b86bde2eb3cb3336ea106dca8c7a4f846590e0", func := "tumbrel/tumbrellaw28.FrameDeep", spec := "frameDeep", unfollowed := true, recurses := true, apart := false }
def FrameDeepSaid : Prop := frameDeepRow.holds Try.pinned (OpenSpec.ofChange frameDeepSpec)

/-- ITS FALSE NEIGHBOUR: 'it returns false'. Refute it at one input. -/
def frameDeepWrong : ChangeSpec := { name := "frameDeep", fn := fun _ => fun
  | [d1, d2, d3] => { results := [.lit (.bool false)], args := [d1, d2, d3] }
  | _ => none }
def FrameDeepWrongFalsely : Prop := frameDeepRow.holds Try.pinned (OpenSpec.ofChange frameDeepWrong)

/-- 'tumbrellaw28.FramePlays': WHATEVER THE INPUT: true; the input reads as it did. -/
def framePlaysSpec : ChangeSpec := { name := "framePlays", fn := fun _ => fun
  | [d1, d2] => { results := [.lit (.bool true)], args := [d1, d2] }
  | _ => none }
def framePlaysRow : OpenClaim := { program := "ytdmidnmciaediaa", sum := "309998343654d0be620f771677b86bde2eb3cb3336ea106dca8c7a4f846590e0", func := "tumbrel/tumbrellaw28.FramePlays", spec := "framePlays", unfollowed := true, recurses := true, apart := false }
def FramePlaysSaid : Prop := framePlaysRow.holds Try.pinned (OpenSpec.ofChange framePlaysSpec)

/-- ITS FALSE NEIGHBOUR: 'it returns false'. Refute it at one input. -/
def framePlaysWrong : ChangeSpec := { name := "framePlays", fn := fun _ => fun
  | [d1, d2] => { results := [.lit (.bool false)], args := [d1, d2] }
  | _ => none }
def FramePlaysWrongFalsely : Prop := framePlaysRow.holds Try.pinned (OpenSpec.ofChange framePlaysWrong)

/-- 'tumbrellaw28.FrameRefs': WHATEVER THE INPUT: true; the input reads as it did. -/
def frameRefsSpec : ChangeSpec := { name := "frameRefs", fn := fun _ => fun
  | [d1, d2, d3, d4] => { results := [.lit (.bool true)], args := [d1, d2, d3, d4] }
  | _ => none }
def frameRefsRow : OpenClaim := { program := "ytdmidnmciaediaa", sum := "309998343654d0be620f771677b86bde2eb3cb3336ea106dca8c7a4f846590e0", func := "tumbrel/tumbrellaw28.FrameRefs", spec := "frameRefs", unfollowed := true, recurses := true, apart := false }
def FrameRefsSaid : Prop := frameRefsRow.holds Try.pinned (OpenSpec.ofChange frameRefsSpec)

/-- ITS FALSE NEIGHBOUR: 'it returns false'. Refute it at one input. -/
def frameRefsWrong : ChangeSpec := { name := "frameRefs", fn := fun _ => fun
  | [d1, d2, d3, d4] => { results := [.lit (.bool false)], args := [d1, d2, d3, d4] }
  | _ => none }
def FrameRefsWrongFalsely : Prop := frameRefsRow.holds Try.pinned (OpenSpec.ofChange frameRefsWrong)

/-- 'tumbrellaw28.FrameMaps': WHATEVER THE INPUT: true; the input reads as it did. -/
def frameMapsSpec : ChangeSpec := { name := "frameMaps", fn := fun _ => fun
  | [d1, d2] => { results := [.lit (.bool true)], args := [d1, d2] }
  | _ => none }
def frameMapsRow : OpenClaim := { program := "ytdmidnmciaediaa", sum := "309998343654d0be620f771677b86bde2eb3cb3336ea106dca8c7a4f846590e0", func := "tumbrel/tumbrellaw28.FrameMaps", spec := "frameMaps", unfollowed := true, recurses := true, apart := false }
def FrameMapsSaid : Prop := frameMapsRow.holds Try.pinned (OpenSpec.ofChange frameMapsSpec)

/-- ITS FALSE NEIGHBOUR: 'it returns false'. Refute it at one input. -/
def frameMapsWrong : ChangeSpec := { name := "frameMaps", fn := fun _ => fun
  | [d1, d2] => { results := [.lit (.bool false)], args := [d1, d2] }
  | _ => none }
def FrameMapsWrongFalsely : Prop := frameMapsRow.holds Try.pinned (OpenSpec.ofChange frameMapsWrong)

/-- 'tumbrellaw28.FrameNil': WHATEVER THE INPUT: true; the input reads as it did. -/
def frameNilSpec : ChangeSpec := { name := "frameNil", fn := fun _ => fun
  | [d1, d2] => { results := [.lit (.bool true)], args := [d1, d2] }
  | _ => none }
def frameNilRow : OpenClaim := { program := "ytdmidnmciaediaa", sum := "309998343654d0be620f771677b86bde2eb3cb3336ea106dca8c7a4f846590e0", func := "tumbrel/tumbrellaw28.FrameNil", spec := "frameNil", unfollowed := true, recurses := true, apart := false }
def FrameNilSaid : Prop := frameNilRow.holds Try.pinned (OpenSpec.ofChange frameNilSpec)

/-- ITS FALSE NEIGHBOUR: 'it returns false'. Refute it at one input. -/
def frameNilWrong : ChangeSpec := { name := "frameNil", fn := fun _ => fun
  | [d1, d2] => { results := [.lit (.bool false)], args := [d1, d2] }
  | _ => none }
def FrameNilWrongFalsely : Prop := frameNilRow.holds Try.pinned (OpenSpec.ofChange frameNilWrong)

/-- 'tumbrellaw26.VerifyCheck': WHATEVER THE INPUT: true; the input reads as it did. -/
def verifyCheckSpec : ChangeSpec := { name := "verifyCheck", fn := fun _ => fun
  | [d] => { results := [.lit (.bool true)], args := [d] }
  | _ => none }
def verifyCheckRow : OpenClaim := { program := "ytdmidnmciaediaa", sum := "309998343654d0be620f771677b86bde2eb3cb3336ea106dca8c7a4f846590e0", func := "tumbrel/tumbrellaw26.VerifyCheck", spec := "verifyCheck", unfollowed := true, recurses := true, apart := false }
def VerifyCheckSaid : Prop := verifyCheckRow.holds Try.pinned (OpenSpec.ofChange verifyCheckSpec)

/-- ITS FALSE NEIGHBOUR: 'it returns false'. Refute it at one input. -/
def verifyCheckWrong : ChangeSpec := { name := "verifyCheck", fn := fun _ => fun
  | [d] => { results := [.lit (.bool false)], args := [d] }
  | _ => none }
def VerifyCheckWrongFalsely : Prop := verifyCheckRow.holds Try.pinned (OpenSpec.ofChange verifyCheckWrong)

/-- 'tumbrellaw26.VerifyHolds': WHATEVER THE INPUT: true; the input reads as it did. -/
def verifyHoldsSpec : ChangeSpec := { name := "verifyHolds", fn := fun _ => fun
  | [d] => { results := [.lit (.bool true)], args := [d] }
  | _ => none }
def verifyHoldsRow : OpenClaim := { program := "ytdmidnmciaediaa", sum := "309998343654d0be620f771677b86bde2eb3cb3336ea106dca8c7a4f846590e0", func := "tumbrel/tumbrellaw26.VerifyHolds", spec := "verifyHolds", unfollowed := true, recurses := true, apart := false }
def VerifyHoldsSaid : Prop := verifyHoldsRow.holds Try.pinned (OpenSpec.ofChange verifyHoldsSpec)

/-- ITS FALSE NEIGHBOUR: 'it returns false'. Refute it at one input. -/
def verifyHoldsWrong : ChangeSpec := { name := "verifyHolds", fn := fun _ => fun
  | [d] => { results := [.lit (.bool false)], args := [d] }
  | _ => none }
def VerifyHoldsWrongFalsely : Prop := verifyHoldsRow.holds Try.pinned (OpenSpec.ofChange verifyHoldsWrong)

/-- 'tumbrellaw26.VerifyPolls': WHATEVER THE INPUT: true; the input reads as it did. -/
def verifyPollsSpec : ChangeSpec := { name := "verifyPolls", fn := fun _ => fun
  | [d1, d2, d3, d4] => { results := [.lit (.bool true)], args := [d1, d2, d3, d4] }
  | _ => none }
def verifyPollsRow : OpenClaim := { program := "ytdmidnmciaediaa", sum := "309998343654d0be620f771677b86bde2eb3cb3336ea106dca8c7a4f846590e0", func := "tumbrel/tumbrellaw26.VerifyPolls", spec := "verifyPolls", unfollowed := true, recurses := true, apart := false }
def VerifyPollsSaid : Prop := verifyPollsRow.holds Try.pinned (OpenSpec.ofChange verifyPollsSpec)

/-- ITS FALSE NEIGHBOUR: 'it returns false'. Refute it at one input. -/
def verifyPollsWrong : ChangeSpec := { name := "verifyPolls", fn := fun _ => fun
  | [d1, d2, d3, d4] => { results := [.lit (.bool false)], args := [d1, d2, d3, d4] }
  | _ => none }
def VerifyPollsWrongFalsely : Prop := verifyPollsRow.holds Try.pinned (OpenSpec.ofChange verifyPollsWrong)

/-- 'tumbrellaw26.VerifyEffect': WHATEVER THE INPUT: true; the input reads as it did. -/
def verifyEffectSpec : ChangeSpec := { name := "verifyEffect", fn := fun _ => fun
  | [d1, d2, d3, d4] => { results := [.lit (.bool true)], args := [d1, d2, d3, d4] }
  | _ => none }
def verifyEffectRow : OpenClaim := { program := "ytdmidnmciaediaa", sum := "309998343654d0be620f771677b86bde2eb3cb3336ea106dca8c7a4f846590e0", func := "tumbrel/tumbrellaw26.VerifyEffect", spec := "verifyEffect", unfollowed := true, recurses := true, apart := false }
def VerifyEffectSaid : Prop := verifyEffectRow.holds Try.pinned (OpenSpec.ofChange verifyEffectSpec)

/-- ITS FALSE NEIGHBOUR: 'it returns false'. Refute it at one input. -/
def verifyEffectWrong : ChangeSpec := { name := "verifyEffect", fn := fun _ => fun
  | [d1, d2, d3, d4] => { results := [.lit (.bool false)], args := [d1, d2, d3, d4] }
  | _ => none }
def VerifyEffectWrongFalsely : Prop := verifyEffectRow.holds Try.pinned (OpenSpec.ofChange verifyEffectWrong)

/-- 'tumbrellaw27.MapsReach': WHATEVER THE INPUT: true; the input reads as it did. -/
def mapsReachSpec : ChangeSpec := { name := "mapsReach", fn := fun _ => fun
  | [d1, d2, d3, d4, d5, d6] => { results := [.lit (.bool true)], args := [d1, d2, d3, d4, d5, d6] }
  | _ => none }
def mapsReachRow : OpenClaim := { program := "ytdmidnmciaediaa", sum := "309998343654d0be620f771677b86bde2eb3cb3336ea106dca8c7a4f846590e0", func := "tumbrel/tumbrellaw27.MapsReach", spec := "mapsReach", unfollowed := true, recurses := true, apart := false }
def MapsReachSaid : Prop := mapsReachRow.holds Try.pinned (OpenSpec.ofChange mapsReachSpec)

/-- ITS FALSE NEIGHBOUR: 'it returns false'. Refute it at one input. -/
def mapsReachWrong : ChangeSpec := { name := "mapsReach", fn := fun _ => fun
  | [d1, d2, d3, d4, d5, d6] => { results := [.lit (.bool false)], args := [d1, d2, d3, d4, d5, d6] }
  | _ => none }
def MapsReachWrongFalsely : Prop := mapsReachRow.holds Try.pinned (OpenSpec.ofChange mapsReachWrong)

/-- 'tumbrellaw27.MapsBounds': WHATEVER THE INPUT: true; the input reads as it did. -/
def mapsBoundsSpec : ChangeSpec := { name := "mapsBounds", fn := fun _ => fun
  | [d] => { results := [.lit (.bool true)], args := [d] }
  | _ => none }
def mapsBoundsRow : OpenClaim := { program := "ytdmidnmciaediaa", sum := "309998343654d0be620f771677b86bde2eb3cb3336ea106dca8c7a4f846590e0", func := "tumbrel/tumbrellaw27.MapsBounds", spec := "mapsBounds", unfollowed := true, recurses := true, apart := false }
def MapsBoundsSaid : Prop := mapsBoundsRow.holds Try.pinned (OpenSpec.ofChange mapsBoundsSpec)

/-- ITS FALSE NEIGHBOUR: 'it returns false'. Refute it at one input. -/
def mapsBoundsWrong : ChangeSpec := { name := "mapsBounds", fn := fun _ => fun
  | [d] => { results := [.lit (.bool false)], args := [d] }
  | _ => none }
def MapsBoundsWrongFalsely : Prop := mapsBoundsRow.holds Try.pinned (OpenSpec.ofChange mapsBoundsWrong)

/-- 'tumbrellaw27.MapsOf': WHATEVER THE INPUT: true; the input reads as it did. -/
def mapsOfSpec : ChangeSpec := { name := "mapsOf", fn := fun _ => fun
  | [d1, d2, d3, d4, d5] => { results := [.lit (.bool true)], args := [d1, d2, d3, d4, d5] }
  | _ => none }
def mapsOfRow : OpenClaim := { program := "ytdmidnmciaediaa", sum := "309998343654d0be620f771677b86bde2eb3cb3336ea106dca8c7a4f846590e0", func := "tumbrel/tumbrellaw27.MapsOf", spec := "mapsOf", unfollowed := true, recurses := true, apart := false }
def MapsOfSaid : Prop := mapsOfRow.holds Try.pinned (OpenSpec.ofChange mapsOfSpec)

/-- ITS FALSE NEIGHBOUR: 'it returns false'. Refute it at one input. -/
def mapsOfWrong : ChangeSpec := { name := "mapsOf", fn := fun _ => fun
  | [d1, d2, d3, d4, d5] => { results := [.lit (.bool false)], args := [d1, d2, d3, d4, d5] }
  | _ => none }
def MapsOfWrongFalsely : Prop := mapsOfRow.holds Try.pinned (OpenSpec.ofChange mapsOfWrong)

/- THE SECOND FORM. 'bulk': how many values and letters a reading holds, each counted each time it is reached (what is shared counts as often as it is met; a slice's spare places count too). A statement '..UptoSaid' is the law's where the arguments, and the package variables that the reading takes, are together of bulk at most 1048576: NARROWER than '..Said'. Prove '..Said' where nothing that the law and all that it calls make is longer than what came in: it says more and counts as full. Else prove '..UptoSaid'. A law counts once. -/
mutual
def uptoBulk {H : Type} : DataW H → Nat
  | .lit (.string bytes) => bytes.length + 1
  | .lit _ => 1
  | .nil => 1
  | .ptr d => uptoBulk d + 1
  | .slice elems spare => uptoBulkAll elems + uptoBulkAll spare + 1
  | .agg parts => uptoBulkAll parts + 1
  | .iface _ d => uptoBulk d + 1
  | .map entries => uptoBulkEntries entries + 1
  | .held _ => 1
def uptoBulkAll {H : Type} : List (DataW H) → Nat
  | [] => 0
  | d :: r => uptoBulk d + uptoBulkAll r
def uptoBulkEntries {H : Type} : List (Lit × DataW H) → Nat
  | [] => 0
  | x :: r => uptoBulkEntry x + uptoBulkEntries r
def uptoBulkEntry {H : Type} : Lit × DataW H → Nat
  | (.string bytes, d) => bytes.length + uptoBulk d + 1
  | (_, d) => uptoBulk d + 1
 end
def uptoSmall : (H : Type) → List (DataW H) → Bool := fun _ ds => decide (uptoBulkAll ds ≤ 1048576)
def OpenSpec.upto (s : _root_.Go.ChangeSpec) : _root_.Go.OpenSpec := { _root_.Go.OpenSpec.ofChange s with cond := some uptoSmall }

/-- 'tumbrellaw28.FrameDeep', WHERE WHAT IT READS IS OF BULK AT MOST 1048576: true; the input reads as it did. -/
def frameDeepUptoRow : OpenClaim := { program := "ytdmidnmciaediaa", sum := "309998343654d0be620f771677b86bde2eb3cb3336ea106dca8c7a4f846590e0", func := "tumbrel/tumbrellaw28.FrameDeep", spec := "frameDeep", unfollowed := true, recurses := true, apart := false, narrowed := true }
def FrameDeepUptoSaid : Prop := frameDeepUptoRow.holds Try.pinned (OpenSpec.upto frameDeepSpec)

/-- 'tumbrellaw28.FramePlays', WHERE WHAT IT READS IS OF BULK AT MOST 1048576: true; the input reads as it did. -/
def framePlaysUptoRow : OpenClaim := { program := "ytdmidnmciaediaa", sum := "309998343654d0be620f771677b86bde2eb3cb3336ea106dca8c7a4f846590e0", func := "tumbrel/tumbrellaw28.FramePlays", spec := "framePlays", unfollowed := true, recurses := true, apart := false, narrowed := true }
def FramePlaysUptoSaid : Prop := framePlaysUptoRow.holds Try.pinned (OpenSpec.upto framePlaysSpec)

/-- 'tumbrellaw28.FrameRefs', WHERE WHAT IT READS IS OF BULK AT MOST 1048576: true; the input reads as it did. -/
def frameRefsUptoRow : OpenClaim := { program := "ytdmidnmciaediaa", sum := "309998343654d0be620f771677b86bde2eb3cb3336ea106dca8c7a4f846590e0", func := "tumbrel/tumbrellaw28.FrameRefs", spec := "frameRefs", unfollowed := true, recurses := true, apart := false, narrowed := true }
def FrameRefsUptoSaid : Prop := frameRefsUptoRow.holds Try.pinned (OpenSpec.upto frameRefsSpec)

/-- 'tumbrellaw28.FrameMaps', WHERE WHAT IT READS IS OF BULK AT MOST 1048576: true; the input reads as it did. -/
def frameMapsUptoRow : OpenClaim := { program := "ytdmidnmciaediaa", sum := "309998343654d0be620f771677b86bde2eb3cb3336ea106dca8c7a4f846590e0", func := "tumbrel/tumbrellaw28.FrameMaps", spec := "frameMaps", unfollowed := true, recurses := true, apart := false, narrowed := true }
def FrameMapsUptoSaid : Prop := frameMapsUptoRow.holds Try.pinned (OpenSpec.upto frameMapsSpec)

/-- 'tumbrellaw28.FrameNil', WHERE WHAT IT READS IS OF BULK AT MOST 1048576: true; the input reads as it did. -/
def frameNilUptoRow : OpenClaim := { program := "ytdmidnmciaediaa", sum := "309998343654d0be620f771677b86bde2eb3cb3336ea106dca8c7a4f846590e0", func := "tumbrel/tumbrellaw28.FrameNil", spec := "frameNil", unfollowed := true, recurses := true, apart := false, narrowed := true }
def FrameNilUptoSaid : Prop := frameNilUptoRow.holds Try.pinned (OpenSpec.upto frameNilSpec)

/-- 'tumbrellaw26.VerifyCheck', WHERE WHAT IT READS IS OF BULK AT MOST 1048576: true; the input reads as it did. -/
def verifyCheckUptoRow : OpenClaim := { program := "ytdmidnmciaediaa", sum := "309998343654d0be620f771677b86bde2eb3cb3336ea106dca8c7a4f846590e0", func := "tumbrel/tumbrellaw26.VerifyCheck", spec := "verifyCheck", unfollowed := true, recurses := true, apart := false, narrowed := true }
def VerifyCheckUptoSaid : Prop := verifyCheckUptoRow.holds Try.pinned (OpenSpec.upto verifyCheckSpec)

/-- 'tumbrellaw26.VerifyHolds', WHERE WHAT IT READS IS OF BULK AT MOST 1048576: true; the input reads as it did. -/
def verifyHoldsUptoRow : OpenClaim := { program := "ytdmidnmciaediaa", sum := "309998343654d0be620f771677b86bde2eb3cb3336ea106dca8c7a4f846590e0", func := "tumbrel/tumbrellaw26.VerifyHolds", spec := "verifyHolds", unfollowed := true, recurses := true, apart := false, narrowed := true }
def VerifyHoldsUptoSaid : Prop := verifyHoldsUptoRow.holds Try.pinned (OpenSpec.upto verifyHoldsSpec)

/-- 'tumbrellaw26.VerifyPolls', WHERE WHAT IT READS IS OF BULK AT MOST 1048576: true; the input reads as it did. -/
def verifyPollsUptoRow : OpenClaim := { program := "ytdmidnmciaediaa", sum := "309998343654d0be620f771677b86bde2eb3cb3336ea106dca8c7a4f846590e0", func := "tumbrel/tumbrellaw26.VerifyPolls", spec := "verifyPolls", unfollowed := true, recurses := true, apart := false, narrowed := true }
def VerifyPollsUptoSaid : Prop := verifyPollsUptoRow.holds Try.pinned (OpenSpec.upto verifyPollsSpec)

/-- 'tumbrellaw26.VerifyEffect', WHERE WHAT IT READS IS OF BULK AT MOST 1048576: true; the input reads as it did. -/
def verifyEffectUptoRow : OpenClaim := { program := "ytdmidnmciaediaa", sum := "309998343654d0be620f771677b86bde2eb3cb3336ea106dca8c7a4f846590e0", func := "tumbrel/tumbrellaw26.VerifyEffect", spec := "verifyEffect", unfollowed := true, recurses := true, apart := false, narrowed := true }
def VerifyEffectUptoSaid : Prop := verifyEffectUptoRow.holds Try.pinned (OpenSpec.upto verifyEffectSpec)

/-- 'tumbrellaw27.MapsReach', WHERE WHAT IT READS IS OF BULK AT MOST 1048576: true; the input reads as it did. -/
def mapsReachUptoRow : OpenClaim := { program := "ytdmidnmciaediaa", sum := "309998343654d0be620f771677b86bde2eb3cb3336ea106dca8c7a4f846590e0", func := "tumbrel/tumbrellaw27.MapsReach", spec := "mapsReach", unfollowed := true, recurses := true, apart := false, narrowed := true }
def MapsReachUptoSaid : Prop := mapsReachUptoRow.holds Try.pinned (OpenSpec.upto mapsReachSpec)

/-- 'tumbrellaw27.MapsBounds', WHERE WHAT IT READS IS OF BULK AT MOST 1048576: true; the input reads as it did. -/
def mapsBoundsUptoRow : OpenClaim := { program := "ytdmidnmciaediaa", sum := "309998343654d0be620f771677b86bde2eb3cb3336ea106dca8c7a4f846590e0", func := "tumbrel/tumbrellaw27.MapsBounds", spec := "mapsBounds", unfollowed := true, recurses := true, apart := false, narrowed := true }
def MapsBoundsUptoSaid : Prop := mapsBoundsUptoRow.holds Try.pinned (OpenSpec.upto mapsBoundsSpec)

/-- 'tumbrellaw27.MapsOf', WHERE WHAT IT READS IS OF BULK AT MOST 1048576: true; the input reads as it did. -/
def mapsOfUptoRow : OpenClaim := { program := "ytdmidnmciaediaa", sum := "309998343654d0be620f771677b86bde2eb3cb3336ea106dca8c7a4f846590e0", func := "tumbrel/tumbrellaw27.MapsOf", spec := "mapsOf", unfollowed := true, recurses := true, apart := false, narrowed := true }
def MapsOfUptoSaid : Prop := mapsOfUptoRow.holds Try.pinned (OpenSpec.upto mapsOfSpec)

end Rows
end Go.Proofs.Ytdmidnmciaediaa
