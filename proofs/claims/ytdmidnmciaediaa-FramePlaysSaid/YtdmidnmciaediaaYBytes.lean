/- Slices of bytes: read as lists, or owned by the call. No conditions beside those stated. Numbers as bytes: num.Put, num.Get and the document's own. Conditions: those stated. Layer 24: shapes, words, and what they are told; ours and the document's. No conditions. Layer 24: more contracts: ours and the document's own words. No conditions. -/
import Derived.Test.YtdmidnmciaediaaProg
import Derived.Test.YtdmidnmciaediaaYBase
import Derived.OwnWalk
import Derived.Deep.QuietTactic
import Derived.BigQuiet
import Derived.StillTailTactics
import Derived.Laws.RangeString
import Derived.Laws.DeepStrings4
import Derived.Deep.LoopGhost
import Derived.Deep.DeepCutAuto
import Derived.Deep.CutBlock
namespace Go.Proofs.Ytdmidnmciaediaa
section
open Go.RowKit
set_option linter.unusedVariables false
set_option linter.unusedSimpArgs false
/-- 0: told nothing; 1: x; 2: a; 3: a and b; 4: there is none. -/
def kindOf (op : Int) : Nat :=
  if op < 0 ∨ 37 ≤ op then 4 else [0,1,1,0,2,2,2,2,0,0,2,2,2,2,2,0,0,3,2,2,2,2,0,0,0,2,2,0,2,0,0,2,2,0,0,0,0].getD op.toNat 4
def shN (op : Int) : Int := if kindOf op = 3 then 2 else if kindOf op = 2 then 1 else 0
def shX (op : Int) : Bool := kindOf op == 1
def shOk (op : Int) : Bool := kindOf op != 4
def smallB (n : Int) (t : Bool) : Bool := decide (n = 0) || (t && (decide (0 < n) && decide (n ≤ 65535)))
def mayB (op x a b : Int) : Bool := shOk op && (shX op || decide (x = 0)) && smallB a (decide (0 < shN op)) && smallB b (decide (1 < shN op))
end
section
open Go.RowKit
set_option linter.unusedVariables false
set_option linter.unusedSimpArgs false
theorem ours_any (op x a b : Int) (w : World) : Calls Try.prog 58 #[.agg #[.int .i64 op, .int .u64 x, .int .i64 a, .int .i64 b]] w fun e w' => e = .returned (.agg #[.int .i64 op, .int .u64 x, .int .i64 a, .int .i64 b]) ∧ Below w.heap.size w w' := by
  have hB : Below w.heap.size w (w.alloc (.cells #[.int .i64 op, .int .u64 x, .int .i64 a, .int .i64 b] 98)) := b_alloc (Below.refl _ _) _
  go_enter Try.func58, Try.ntmps58
  go_wp2_with fail
  exact bodyPost_ret (v := .agg #[.int .i64 op, .int .u64 x, .int .i64 a, .int .i64 b]) (by simp [results, Try.results58, go_sem]) rfl ⟨rfl, b_alloc hB _⟩
end
end Go.Proofs.Ytdmidnmciaediaa
