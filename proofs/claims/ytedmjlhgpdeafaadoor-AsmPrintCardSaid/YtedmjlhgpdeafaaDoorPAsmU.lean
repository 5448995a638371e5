/- Layer 34: the reader's next method, called at a line's words. Conditions: those stated. -/
import Derived.Test.YtedmjlhgpdeafaaDoorPAsmT
namespace Go.Proofs.YtedmjlhgpdeafaaDoor
open Go.RowKit
set_option linter.unusedVariables false
set_option linter.unusedSimpArgs false
variable {W0 w : World} {rb : Nat} {fi : Bool} {nx : Value} {P : PrM} {g s : Sl}
theorem glob_out {P P' : PrM} {n' : Nat} {ws : List (List UInt8)} (h : globL P ws = some (P', n')) : P'.fs = P.fs ∧ n' = 2 := by
  unfold globL at h
  split at h
  · rename_i a b
    cases e : listL b with
    | none => rw [e] at h; split at h <;> cases h
    | some l =>
      rw [e] at h
      split at h
      · injection h with h
        injection h with e1 e2
        rw [← e1, ← e2]; exact ⟨rfl, rfl⟩
      · cases h
  · cases h
theorem mut_out {P P' : PrM} {n' : Nat} {ws : List (List UInt8)} (h : mutL P ws = some (P', n')) : P'.fs = P.fs ∧ n' = 3 := by
  unfold mutL at h
  split at h
  · rename_i a b
    cases e : valL b with
    | none => rw [e] at h; split at h <;> cases h
    | some l =>
      rw [e] at h
      split at h
      · injection h with h
        injection h with e1 e2
        rw [← e1, ← e2]; exact ⟨rfl, rfl⟩
      · cases h
  · cases h
theorem fn_out {P P' : PrM} {n' : Nat} {r : List (List UInt8)} (h : fnL P r = some (P', n')) : (∃ a b k, P'.fs = P.fs ++ [⟨a, b, k, []⟩]) ∧ n' = 3 := by
  unfold fnL at h
  split at h
  · rename_i x y z
    cases ex : listL x with
    | none => simp [ex] at h
    | some a =>
      cases ey : listL y with
      | none => simp [ex, ey] at h
      | some b =>
        cases ez : listL z with
        | none => simp [ex, ey, ez] at h
        | some c =>
          simp only [ex, ey, ez, Option.bind_some] at h
          split at h
          · rename_i k
            injection h with h
            injection h with e1 e2
            rw [← e1, ← e2]; exact ⟨⟨a, b, k, rfl⟩, rfl⟩
          · cases h
  · cases h
theorem cod_out {P P' : PrM} {n' : Nat} {ws : List (List UInt8)} (h : codL P ws = some (P', n')) : ((∃ a b k, P'.fs = P.fs ++ [⟨a, b, k, []⟩]) ∨ ∃ fs0 m i, P.fs = fs0 ++ [m] ∧ P'.fs = fs0 ++ [addI m i]) ∧ n' = 3 := by
  unfold codL at h
  split at h
  · cases h
  · rename_i a r
    by_cases ha : a = sFunc
    · rw [if_pos ha] at h
      exact ⟨Or.inl (fn_out h).1, (fn_out h).2⟩
    · rw [if_neg ha] at h
      cases ei : instrL a r with
      | none => simp [ei] at h
      | some i =>
        simp only [ei, Option.bind_some] at h
        by_cases hne : P.fs = []
        · rw [if_pos hne] at h; cases h
        · rw [if_neg hne] at h
          injection h with h
          injection h with e1 e2
          have e : P.fs = P.fs.dropLast ++ [P.fs.getLast hne] := (List.dropLast_concat_getLast hne).symm
          refine ⟨Or.inr ⟨P.fs.dropLast, P.fs.getLast hne, i, e, ?_⟩, e2.symm⟩
          rw [← e1]
          show addLast P.fs i = _
          have := addLast_snoc P.fs.dropLast (P.fs.getLast hne) i
          rw [← e] at this
          exact this
theorem fits_sz {P P' : PrM} {n n' k : Nat} {ws : List (List UInt8)} (h : fitsL P n ws = some (P', n')) (h1 : P.fs.length ≤ k) (h2 : ∀ f ∈ P.fs, f.code.length ≤ k) : (P'.fs.length ≤ k + 1 ∧ ∀ f ∈ P'.fs, f.code.length ≤ k + 1) ∧ 1 ≤ n' ∧ n' ≤ 3 := by
  have hsame : P'.fs = P.fs → P'.fs.length ≤ k + 1 ∧ ∀ f ∈ P'.fs, f.code.length ≤ k + 1 := fun e => by
    rw [e]
    exact ⟨by omega, fun f hf => by have := h2 f hf; omega⟩
  unfold fitsL at h
  split at h
  · injection h with h
    injection h with e1 e2
    exact ⟨hsame (by rw [← e1]), by omega, by omega⟩
  · split at h
    · obtain ⟨e1, e2⟩ := glob_out h
      exact ⟨hsame e1, by omega, by omega⟩
    · split at h
      · obtain ⟨e1, e2⟩ := mut_out h
        exact ⟨hsame e1, by omega, by omega⟩
      · obtain ⟨e1, e2⟩ := cod_out h
        refine ⟨?_, by omega, by omega⟩
        rcases e1 with ⟨a, b, kk, e⟩ | ⟨fs0, m, i, e, e4⟩
        · rw [e]
          refine ⟨by simp; omega, fun f hf => ?_⟩
          rcases List.mem_append.1 hf with q | q
          · have := h2 f q; omega
          · rw [List.mem_singleton.1 q]; simp
        · rw [e4]
          refine ⟨by rw [e] at h1; simp at h1 ⊢; omega, fun f hf => ?_⟩
          rcases List.mem_append.1 hf with q | q
          · have := h2 f (by rw [e]; exact List.mem_append_left _ q); omega
          · have := h2 m (by rw [e]; simp)
            rw [List.mem_singleton.1 q]
            unfold addI
            simp; omega
theorem ard_none (h : ARdAt W0 w rb fi nx P g s) {F : FuncId} {args : Array Value} (hc : Calls Tryd.prog F args w fun e w' => e = .returned (.bool false) ∧ Below w.heap.size w w') : Calls Tryd.prog F args w (ARdEnd W0 w rb fi none) :=
  hc.mono fun e w' ⟨h1, h2⟩ => ⟨h1, b_call h.be h2, fun P' n q => by cases q⟩
theorem ard_none2 (h : ARdAt W0 w rb fi nx P g s) {F : FuncId} {args : Array Value} (hc : Calls Tryd.prog F args w fun e w' => e = .returned (.bool false) ∧ w = w') : Calls Tryd.prog F args w (ARdEnd W0 w rb fi none) :=
  hc.mono fun e w' ⟨h1, h2⟩ => ⟨h1, by rw [← h2]; exact h.be, fun P' n q => by cases q⟩
theorem beq_of {a b : List UInt8} (h : a = b) : (a == b) = true := by rw [h]; simp
theorem beq_no {a b : List UInt8} (h : a ≠ b) : (a == b) = false := by simpa using h
theorem gcall_any (n : Nat) (hn : n ≤ 1) (h : ARdAt W0 w rb (decide (n = 0)) (nxV rb n) P g s) {wv : Value} {ws : List (List UInt8)} (hw : ReadR strE w wv ws) (hne : ws ≠ []) (hall : ∀ x ∈ ws, x ≠ [] ∧ x.length ≤ 1000000) : Calls Tryd.prog 25 #[rp rb, wv] w (ARdEnd W0 w rb (decide (n = 0)) (fitsL P n ws)) := by
  have hnx : nxV rb n = nxV rb 1 := by unfold nxV; rw [if_pos hn, if_pos (Nat.le_refl _)]
  match ws, hne, hw, hall with
  | a :: r, _, hw, hall =>
    obtain ⟨b, o, m, cap, rfl, hm, hmc, hcm, hb, c0, cr⟩ := awords_at hw
    by_cases hu : n = 0 ∧ a :: r = [sUnch]
    · obtain ⟨hu0, hu1⟩ := hu
      injection hu1 with ha hr
      have e : fitsL P n (a :: r) = some ({ P with u := true }, 1) := by unfold fitsL; rw [if_pos ⟨hu0, by rw [ha, hr]⟩]
      rw [e]
      have hm1 : ((m : Int) == 1) = true := by rw [hm, hr]; rfl
      subst hu0
      exact glob_unch h hnx hm1 hmc hcm hb c0 (beq_of ha)
    · have e : fitsL P n (a :: r) = globL P (a :: r) := by unfold fitsL; rw [if_neg hu, if_pos hn]
      rw [e]
      by_cases hg : a = sGlob ∧ r.length = 1
      · obtain ⟨ha, hr⟩ := hg
        match r, hr, cr, hm, hall with
        | [x], _, cr, hm, hall =>
          have e2 : globL P [a, x] = (listL x).bind fun l => some ({ P with gl := l }, 2) := by unfold globL; simp only [ha, if_true]
          rw [e2]
          have c1 : w.cell? ⟨b, o + 1, none⟩ = some (.string ⟨x.toArray⟩) := cr 0 (by simp)
          have hx := hall x (by simp)
          exact glob_yes h (by rw [hm]; rfl) hmc hcm hb c0 c1 (beq_of ha) hx.1 hx.2
      · have e2 : globL P (a :: r) = none := by
          unfold globL
          split
          · rename_i a' b' heq
            injection heq with q1 q2
            rw [if_neg]
            intro q
            exact hg ⟨by rw [q1]; exact q, by rw [q2]; rfl⟩
          · rfl
        rw [e2]
        refine ard_none2 h (glob_no h (by omega) hmc hcm hb c0 ?_ ?_)
        · by_cases q0 : n = 0
          · by_cases qa : a = sUnch
            · refine Or.inr (Or.inl (beq_false_of_ne (fun q => hu ⟨q0, ?_⟩)))
              have : r.length = 0 := by omega
              rw [qa, List.eq_nil_of_length_eq_zero this]
            · exact Or.inr (Or.inr (beq_no qa))
          · exact Or.inl (decide_eq_false q0)
        · by_cases qa : a = sGlob
          · refine Or.inl ?_
            have : r.length ≠ 1 := fun q => hg ⟨qa, q⟩
            simp; omega
          · exact Or.inr (beq_no qa)
theorem mcall_any (h : ARdAt W0 w rb fi (nxV rb 2) P g s) {wv : Value} {ws : List (List UInt8)} (hw : ReadR strE w wv ws) (hne : ws ≠ []) (hall : ∀ x ∈ ws, x ≠ [] ∧ x.length ≤ 1000000) : Calls Tryd.prog 55 #[rp rb, wv] w (ARdEnd W0 w rb fi (fitsL P 2 ws)) := by
  match ws, hne, hw, hall with
  | a :: r, _, hw, hall =>
    obtain ⟨b, o, m, cap, rfl, hm, hmc, hcm, hb, c0, cr⟩ := awords_at hw
    have e : fitsL P 2 (a :: r) = mutL P (a :: r) := by unfold fitsL; rw [if_neg (by omega), if_neg (by omega), if_pos rfl]
    rw [e]
    by_cases hg : a = sMut ∧ r.length = 1
    · obtain ⟨ha, hr⟩ := hg
      match r, hr, cr, hm, hall with
      | [x], _, cr, hm, hall =>
        have e2 : mutL P [a, x] = (valL x).bind fun m => some ({ P with m := (m : Int) }, 3) := by unfold mutL; simp only [ha, if_true]
        rw [e2]
        have c1 : w.cell? ⟨b, o + 1, none⟩ = some (.string ⟨x.toArray⟩) := cr 0 (by simp)
        have hx := hall x (by simp)
        exact mut_yes h (by rw [hm]; rfl) hmc hcm hb c0 c1 (beq_of ha) hx.2
    · have e2 : mutL P (a :: r) = none := by
        unfold mutL
        split
        · rename_i a' b' heq
          injection heq with q1 q2
          rw [if_neg]
          intro q
          exact hg ⟨by rw [q1]; exact q, by rw [q2]; rfl⟩
        · rfl
      rw [e2]
      refine ard_none2 h (mut_no h (by omega) hmc hcm hb c0 ?_)
      by_cases qa : a = sMut
      · refine Or.inl ?_
        have : r.length ≠ 1 := fun q => hg ⟨qa, q⟩
        simp; omega
      · exact Or.inr (beq_no qa)
theorem ccall_any (n : Nat) (hn : n = 3) (h : ARdAt W0 w rb fi (nxV rb 3) P g s) {wv : Value} {ws : List (List UInt8)} (hw : ReadR strE w wv ws) (hne : ws ≠ []) (hall : ∀ x ∈ ws, x ≠ [] ∧ x.length ≤ 1000000) (hs1 : P.fs.length ≤ 1000000) (hs2 : ∀ f ∈ P.fs, f.code.length ≤ 1000000) : Calls Tryd.prog 74 #[rp rb, wv] w (ARdEnd W0 w rb fi (fitsL P n ws)) := by
  subst hn
  match ws, hne, hw, hall with
  | a :: r, _, hw, hall =>
    have hO := aone_any w hw (fun x hx => (hall x hx).2)
    obtain ⟨b, o, m, cap, rfl, hm, hmc, hcm, hb, c0, cr⟩ := awords_at hw
    have e : fitsL P 3 (a :: r) = codL P (a :: r) := by unfold fitsL; rw [if_neg (by omega), if_neg (by omega), if_neg (by omega)]
    rw [e]
    have hm1 : 1 ≤ m := by omega
    by_cases ha : a = sFunc
    · have e1 : codL P (a :: r) = fnL P r := by unfold codL; simp only [ha, if_true]
      rw [e1]
      refine cod_func h hm1 hmc hcm hb c0 (beq_of ha) (fun e w' q => ⟨_, q.1⟩) ?_
      by_cases h3 : r.length = 3
      · match r, h3, cr, hm, hall with
        | [x, y, z], _, cr, hm, hall =>
          have c1 : w.cell? ⟨b, o + 1, none⟩ = some (.string ⟨x.toArray⟩) := cr 0 (by simp)
          have c2 : w.cell? ⟨b, o + 2, none⟩ = some (.string ⟨y.toArray⟩) := cr 1 (by simp)
          have c3 : w.cell? ⟨b, o + 3, none⟩ = some (.string ⟨z.toArray⟩) := cr 2 (by simp)
          have hx := hall x (by simp)
          have hy := hall y (by simp)
          have hz := hall z (by simp)
          have hm4 : m = 4 := by simpa using hm
          cases ex : listL x with
          | none =>
            have e2 : fnL P [x, y, z] = none := by unfold fnL; simp only [ex]; rfl
            rw [e2]
            exact ard_none h (fun_bad h hm4 hmc hcm hb c1 c2 c3 hx.1 hy.1 hz.1 hx.2 hy.2 hz.2 (Or.inl ex))
          | some la =>
            cases ey : listL y with
            | none =>
              have e2 : fnL P [x, y, z] = none := by unfold fnL; simp only [ex, ey]; rfl
              rw [e2]
              exact ard_none h (fun_bad h hm4 hmc hcm hb c1 c2 c3 hx.1 hy.1 hz.1 hx.2 hy.2 hz.2 (Or.inr (Or.inl ey)))
            | some lb =>
              cases ez : listL z with
              | none =>
                have e2 : fnL P [x, y, z] = none := by unfold fnL; simp only [ex, ey, ez]; rfl
                rw [e2]
                exact ard_none h (fun_bad h hm4 hmc hcm hb c1 c2 c3 hx.1 hy.1 hz.1 hx.2 hy.2 hz.2 (Or.inr (Or.inr (Or.inl ez))))
              | some c =>
                match c, ez with
                | [k], ez =>
                  have e2 : fnL P [x, y, z] = some ({ P with fs := P.fs ++ [⟨la, lb, k, []⟩] }, 3) := by unfold fnL; simp only [ex, ey, ez]; rfl
                  rw [e2]
                  exact fun_yes h hm4 hmc hcm hb c1 c2 c3 hx.1 hy.1 hz.1 hx.2 hy.2 hz.2 ex ey ez hs1
                | [], ez =>
                  have e2 : fnL P [x, y, z] = none := by unfold fnL; simp only [ex, ey, ez]; rfl
                  rw [e2]
                  exact ard_none h (fun_bad h hm4 hmc hcm hb c1 c2 c3 hx.1 hy.1 hz.1 hx.2 hy.2 hz.2 (Or.inr (Or.inr (Or.inr ⟨_, ez, by simp⟩))))
                | k :: k2 :: c, ez =>
                  have e2 : fnL P [x, y, z] = none := by unfold fnL; simp only [ex, ey, ez]; rfl
                  rw [e2]
                  exact ard_none h (fun_bad h hm4 hmc hcm hb c1 c2 c3 hx.1 hy.1 hz.1 hx.2 hy.2 hz.2 (Or.inr (Or.inr (Or.inr ⟨_, ez, by simp⟩))))
      · have e2 : fnL P r = none := by
          unfold fnL
          split
          · rename_i x y z
            exact absurd rfl h3
          · rfl
        rw [e2]
        exact ard_none2 h (fun_len h (by simp; omega))
    · have e1 : codL P (a :: r) = (instrL a r).bind fun i => if P.fs = [] then none else some ({ P with fs := addLast P.fs i }, 3) := by unfold codL; simp only [ha, if_false]
      rw [e1]
      cases ei : instrL a r with
      | none => exact ard_none h (cod_none h hm1 hmc hcm hb c0 (beq_no ha) hO (Or.inl ei))
      | some i =>
        by_cases hf : P.fs = []
        · have e2 : ((some i).bind fun i => if P.fs = [] then none else some (({ P with fs := addLast P.fs i } : PrM), 3)) = none := by show (if P.fs = [] then none else _) = _; rw [if_pos hf]
          rw [e2]
          exact ard_none h (cod_none h hm1 hmc hcm hb c0 (beq_no ha) hO (Or.inr hf))
        · have e2 : ((some i).bind fun i => if P.fs = [] then none else some (({ P with fs := addLast P.fs i } : PrM), 3)) = some ({ P with fs := addLast P.fs i }, 3) := by show (if P.fs = [] then none else _) = _; rw [if_neg hf]
          rw [e2]
          exact cod_some h hm1 hmc hcm hb c0 (beq_no ha) hO ei hf hs2
end Go.Proofs.YtedmjlhgpdeafaaDoor
