/- Layer 27: facts that were cut are not too many. No conditions beside those stated. -/
import Derived.Test.YtdmidnmciaediaaZMap6
import Derived.Test.YtdmidnmciaediaaZOurs25
namespace Go.Proofs.Ytdmidnmciaediaa
set_option linter.unusedVariables false
set_option linter.unusedSimpArgs false
theorem fxOk_cut {P : PrM} {Fx : FxM} (hk : ∀ i j, (factM Fx i j).2.length ≤ 17592186044415) : FxOk P (cutX Fx) := by
  refine ⟨by unfold cutX; rw [List.length_map, List.length_take]; omega, fun l hl => ?_, fun i j => ?_⟩
  · unfold cutX at hl
    obtain ⟨l', _, rfl⟩ := List.mem_map.1 hl
    rw [List.length_take]; omega
  · unfold factM
    by_cases hi : i < (cutX Fx).length
    · have hi2 : i < Fx.length := by unfold cutX at hi; rw [List.length_map, List.length_take] at hi; omega
      have e1 : (cutX Fx).getD i [] = (Fx[i]).take 30 := by
        unfold cutX at hi ⊢
        rw [getD_at hi, List.getElem_map, List.getElem_take]
      rw [e1]
      by_cases hj : j < ((Fx[i]).take 30).length
      · have hj2 : j < (Fx[i]).length := by rw [List.length_take] at hj; omega
        rw [getD_at hj, List.getElem_take]
        have := hk i j
        unfold factM at this
        rw [getD_at hi2, getD_at hj2] at this
        exact this
      · rw [List.getD_eq_getElem?_getD, List.getElem?_eq_none (by omega)]; simp
    · rw [List.getD_eq_getElem?_getD (l := cutX Fx), List.getElem?_eq_none (by omega)]; simp
end Go.Proofs.Ytdmidnmciaediaa
