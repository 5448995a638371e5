/- Layer 34, plain: lengths of printed texts; what is parsed has instructions whose numbers are of their kinds. No conditions beside those stated. -/
import Derived.Test.YtedmjlhgpdeafaaDoorPAsmB
import Derived.Test.YtedmjlhgpdeafaaDoorPAsmU
namespace Go.Proofs.YtedmjlhgpdeafaaDoor
set_option linter.unusedVariables false
set_option linter.unusedSimpArgs false
theorem plen34 {P : PrM} (hm : mayP P = true) (h4 : P.fs.length ≤ 4) : (printL P).length ≤ 12220 := by
  obtain ⟨_, ⟨m1, m2⟩, ⟨_, g2⟩, hf⟩ := mayP_parts hm
  have ht := top_len P (by omega) (by omega)
  have hc : ∀ (c : List In4), (∀ i ∈ c, mayB i.op i.x i.a i.b = true) → (codeL c).length ≤ 26 * c.length := by
    intro c
    induction c with
    | nil => intro _; exact Nat.le_refl _
    | cons i r ih =>
      intro h
      obtain ⟨_, ⟨_, h1⟩, ⟨_, h2⟩⟩ := may_bd (h i (by simp))
      have a := line_len h1 h2
      have b := ih (fun j hj => h j (by simp [hj]))
      show ((lineL i ++ [10]) ++ codeL r).length ≤ _
      simp only [List.length_append, List.length_cons, List.length_nil]
      omega
  have hfs : ∀ (fs : List FnM), (∀ f ∈ fs, mayF f = true) → (fs.flatMap funcL).length ≤ 3000 * fs.length := by
    intro fs
    induction fs with
    | nil => intro _; exact Nat.le_refl _
    | cons f r ih =>
      intro h
      obtain ⟨⟨_, p2⟩, ⟨_, p4⟩, _, ⟨_, p6⟩, p7⟩ := mayF_parts (h f (by simp))
      have a := head_len f (by omega) (by omega)
      have b := hc f.code p7
      have c := ih (fun g hg => h g (by simp [hg]))
      rw [List.flatMap_cons]
      show ((headL f ++ codeL f.code) ++ _).length ≤ _
      simp only [List.length_append, List.length_cons]
      omega
  have := hfs P.fs hf
  unfold printL
  rw [List.length_append]
  omega
end Go.Proofs.YtedmjlhgpdeafaaDoor
