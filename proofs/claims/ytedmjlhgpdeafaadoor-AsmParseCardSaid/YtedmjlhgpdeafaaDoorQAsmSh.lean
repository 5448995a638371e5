/- Layer 34, plain: lengths of printed texts; what is parsed has instructions whose numbers are of their kinds. No conditions beside those stated. -/
import Derived.Test.YtedmjlhgpdeafaaDoorQAsmB
import Derived.Test.YtedmjlhgpdeafaaDoorQAsmU
namespace Go.Proofs.YtedmjlhgpdeafaaDoor
set_option linter.unusedVariables false
set_option linter.unusedSimpArgs false
theorem plen34 {P : PrM} (hm : mayP P = true) (h4 : P.fs.length ≤ 4) : (printL P).length ≤ 12220 := by
  obtain ⟨_, ⟨m1, m2⟩, ⟨_, g2⟩, hf⟩ := mayP_parts hm
  have ht := top_len P (by omega) (by omega)
  have hc : ∀ (c : List In4), (∀ i ∈ c, mayB i.op i.x i.a i.b = true) → (codeL c).length ≤ 26 * c.length := by
    intro c
    induction c with
    | nil => intro _; exact Nat.le_refl _
    | cons i r ih =>
      intro h
      obtain ⟨_, ⟨_, h1⟩, ⟨_, h2⟩⟩ := may_bd (h i (by simp))
      have a := line_len h1 h2
      have b := ih (fun j hj => h j (by simp [hj]))
      show ((lineL i ++ [10]) ++ codeL r).length ≤ _
      simp only [List.length_append, List.length_cons, List.length_nil]
      omega
  have hfs : ∀ (fs : List FnM), (∀ f ∈ fs, mayF f = true) → (fs.flatMap funcL).length ≤ 3000 * fs.length := by
    intro fs
    induction fs with
    | nil => intro _; exact Nat.le_refl _
    | cons f r ih =>
      intro h
      obtain ⟨⟨_, p2⟩, ⟨_, p4⟩, _, ⟨_, p6⟩, p7⟩ := mayF_parts (h f (by simp))
      have a := head_len f (by omega) (by omega)
      have b := hc f.code p7
      have c := ih (fun g hg => h g (by simp [hg]))
      rw [List.flatMap_cons]
      show ((headL f ++ codeL f.code) ++ _).length ≤ _
      simp only [List.length_append, List.length_cons]
      omega
  have := hfs P.fs hf
  unfold printL
  rw [List.length_append]
  omega
theorem small_may {P : PrM} (h : mayP P = true) : SmallP P := by
  obtain ⟨⟨_, f2⟩, _, ⟨_, g2⟩, hf⟩ := mayP_parts h
  refine ⟨by omega, by omega, fun f hf' => ?_⟩
  obtain ⟨⟨_, p2⟩, ⟨_, p4⟩, _, ⟨_, p6⟩, _⟩ := mayF_parts (hf f hf')
  exact ⟨by omega, by omega, by omega⟩
theorem instr_good {a : List UInt8} {r : List (List UInt8)} {i : In4} (h : instrL a r = some i) : GoodIn i := by
  unfold instrL at h
  split at h
  · cases h
  · split at h
    · injection h with h
      rw [← h]; exact ⟨by show (0 : Int) ≤ 0; omega, by show (0 : Int) < 18446744073709551616; omega⟩
    · rename_i x _
      cases e : bitsL x with
      | none => rw [e] at h; cases h
      | some v =>
        rw [e] at h
        injection h with h
        have := bitsL_lt e
        rw [← h]
        exact ⟨by show (0 : Int) ≤ (v : Int); omega, by show (v : Int) < 18446744073709551616; omega⟩
    · rename_i x _
      cases e : valL x with
      | none => rw [e] at h; cases h
      | some v =>
        rw [e] at h
        injection h with h
        rw [← h]; exact ⟨by show (0 : Int) ≤ 0; omega, by show (0 : Int) < 18446744073709551616; omega⟩
    · rename_i x y _
      cases e : valL x with
      | none => rw [e] at h; cases h
      | some v =>
        rw [e] at h
        cases e2 : valL y with
        | none => simp [e2] at h
        | some u =>
          simp only [e2, Option.bind_some] at h
          injection h with h
          rw [← h]; exact ⟨by show (0 : Int) ≤ 0; omega, by show (0 : Int) < 18446744073709551616; omega⟩
    · cases h
theorem good_same {P P' : PrM} (h : GoodP P) (e : P'.fs = P.fs) : GoodP P' := fun f hf => h f (by rw [← e]; exact hf)
theorem fits_good {P P' : PrM} {n n' : Nat} {ws : List (List UInt8)} (h : fitsL P n ws = some (P', n')) (hg : GoodP P) : GoodP P' := by
  unfold fitsL at h
  split at h
  · injection h with h
    injection h with e1 e2
    exact good_same hg (by rw [← e1])
  · split at h
    · exact good_same hg (glob_out h).1
    · split at h
      · exact good_same hg (mut_out h).1
      · cases ws with
        | nil => cases h
        | cons a r =>
          unfold codL at h
          simp only at h
          by_cases ha : a = sFunc
          · rw [if_pos ha] at h
            obtain ⟨⟨x, y, k, e⟩, _⟩ := fn_out h
            intro f hf
            rw [e] at hf
            rcases List.mem_append.1 hf with q | q
            · exact hg f q
            · rw [List.mem_singleton.1 q]
              intro i hi
              cases hi
          · rw [if_neg ha] at h
            cases ei : instrL a r with
            | none => simp [ei] at h
            | some i =>
              simp only [ei, Option.bind_some] at h
              by_cases hne : P.fs = []
              · rw [if_pos hne] at h; cases h
              · rw [if_neg hne] at h
                injection h with h
                injection h with e1 e2
                have e : P.fs = P.fs.dropLast ++ [P.fs.getLast hne] := (List.dropLast_concat_getLast hne).symm
                intro f hf
                rw [← e1] at hf
                have hf2 : f ∈ addLast P.fs i := hf
                rw [e, addLast_snoc] at hf2
                rcases List.mem_append.1 hf2 with q | q
                · exact hg f (by rw [e]; exact List.mem_append_left _ q)
                · rw [List.mem_singleton.1 q]
                  intro j hj
                  have hj2 : j ∈ (P.fs.getLast hne).code ++ [i] := hj
                  rcases List.mem_append.1 hj2 with z | z
                  · exact hg _ (List.getLast_mem hne) j z
                  · rw [List.mem_singleton.1 z]; exact instr_good ei
theorem run_good : ∀ (LS : List (List UInt8)) (P Q : PrM) (n k : Nat), runL P n k LS = .done Q → GoodP P → GoodP Q
  | [], P, Q, n, k, h, hg => by
    injection h with h
    rw [← h]; exact hg
  | l :: r, P, Q, n, k, h, hg => by
    unfold runL at h
    split at h
    · exact run_good r P Q n (k + 1) h hg
    · split at h
      · cases h
      · rename_i q e
        obtain ⟨P', n'⟩ := q
        exact run_good r P' Q n' (k + 1) h (fits_good e hg)
theorem parse_good {l : List UInt8} {P : PrM} (h : parseL l = .done P) : mayP P = true ∧ GoodP P := by
  unfold parseL at h
  split at h
  · cases h
  · rename_i Q e
    split at h
    · rename_i hm
      injection h with h
      rw [← h]
      exact ⟨hm, run_good _ _ _ _ _ e (fun f hf => by cases hf)⟩
    · cases h
end Go.Proofs.YtedmjlhgpdeafaaDoor
