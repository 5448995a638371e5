/- ObjectFields: both ways joined. Conditions: the calls read as a list; their numbers are of their kinds. -/
import Derived.Test.YtgbbnmjfkhconaaObjF
namespace Go.Proofs.Ytgbbnmjfkhconaa
open Go.RowKit
theorem objectFields_any (r n : Int) (u : Value) (ops : List Op17) (w : World) (h : ReadR op17 w u ops) (hg : ∀ o ∈ ops, Good17 o) :
    Calls Try.prog 7 #[.agg #[.int .i64 r, .int .i64 n], u] w fun e w' => e = .returned (.bool true) ∧ Below w.heap.size w w' := by
  by_cases hq : 0 ≤ r ∧ 0 ≤ n ∧ r + n ≤ 15
  · obtain ⟨r', rfl⟩ : ∃ k : Nat, r = k := ⟨r.toNat, by omega⟩
    obtain ⟨n', rfl⟩ : ∃ k : Nat, n = k := ⟨n.toNat, by omega⟩
    exact objectFields_yes r' n' u ops w (by omega) h hg
  · have hl := h
    obtain ⟨a, c, rfl, _⟩ := h
    exact objectFields_no r n _ w hq
end Go.Proofs.Ytgbbnmjfkhconaa
