/- Layer 34: the reader's next method, called at a line's words. Conditions: those stated. Layer 34: the program's Parse. Conditions: those stated; where the library's MaxLen stands it holds a number. -/
import Derived.Test.YtedmjlhgpdeafaaDoorQAsmT
import Derived.Test.YtedmjlhgpdeafaaDoorQMayPa
namespace Go.Proofs.YtedmjlhgpdeafaaDoor
section
open Go.RowKit
set_option linter.unusedVariables false
set_option linter.unusedSimpArgs false
variable {W0 w : World} {rb : Nat} {fi : Bool} {nx : Value} {P : PrM} {g s : Sl}
theorem glob_out {P P' : PrM} {n' : Nat} {ws : List (List UInt8)} (h : globL P ws = some (P', n')) : P'.fs = P.fs ∧ n' = 2 := by
  unfold globL at h
  split at h
  · rename_i a b
    cases e : listL b with
    | none => rw [e] at h; split at h <;> cases h
    | some l =>
      rw [e] at h
      split at h
      · injection h with h
        injection h with e1 e2
        rw [← e1, ← e2]; exact ⟨rfl, rfl⟩
      · cases h
  · cases h
theorem mut_out {P P' : PrM} {n' : Nat} {ws : List (List UInt8)} (h : mutL P ws = some (P', n')) : P'.fs = P.fs ∧ n' = 3 := by
  unfold mutL at h
  split at h
  · rename_i a b
    cases e : valL b with
    | none => rw [e] at h; split at h <;> cases h
    | some l =>
      rw [e] at h
      split at h
      · injection h with h
        injection h with e1 e2
        rw [← e1, ← e2]; exact ⟨rfl, rfl⟩
      · cases h
  · cases h
theorem fn_out {P P' : PrM} {n' : Nat} {r : List (List UInt8)} (h : fnL P r = some (P', n')) : (∃ a b k, P'.fs = P.fs ++ [⟨a, b, k, []⟩]) ∧ n' = 3 := by
  unfold fnL at h
  split at h
  · rename_i x y z
    cases ex : listL x with
    | none => simp [ex] at h
    | some a =>
      cases ey : listL y with
      | none => simp [ex, ey] at h
      | some b =>
        cases ez : listL z with
        | none => simp [ex, ey, ez] at h
        | some c =>
          simp only [ex, ey, ez, Option.bind_some] at h
          split at h
          · rename_i k
            injection h with h
            injection h with e1 e2
            rw [← e1, ← e2]; exact ⟨⟨a, b, k, rfl⟩, rfl⟩
          · cases h
  · cases h
theorem cod_out {P P' : PrM} {n' : Nat} {ws : List (List UInt8)} (h : codL P ws = some (P', n')) : ((∃ a b k, P'.fs = P.fs ++ [⟨a, b, k, []⟩]) ∨ ∃ fs0 m i, P.fs = fs0 ++ [m] ∧ P'.fs = fs0 ++ [addI m i]) ∧ n' = 3 := by
  unfold codL at h
  split at h
  · cases h
  · rename_i a r
    by_cases ha : a = sFunc
    · rw [if_pos ha] at h
      exact ⟨Or.inl (fn_out h).1, (fn_out h).2⟩
    · rw [if_neg ha] at h
      cases ei : instrL a r with
      | none => simp [ei] at h
      | some i =>
        simp only [ei, Option.bind_some] at h
        by_cases hne : P.fs = []
        · rw [if_pos hne] at h; cases h
        · rw [if_neg hne] at h
          injection h with h
          injection h with e1 e2
          have e : P.fs = P.fs.dropLast ++ [P.fs.getLast hne] := (List.dropLast_concat_getLast hne).symm
          refine ⟨Or.inr ⟨P.fs.dropLast, P.fs.getLast hne, i, e, ?_⟩, e2.symm⟩
          rw [← e1]
          show addLast P.fs i = _
          have := addLast_snoc P.fs.dropLast (P.fs.getLast hne) i
          rw [← e] at this
          exact this
theorem fits_sz {P P' : PrM} {n n' k : Nat} {ws : List (List UInt8)} (h : fitsL P n ws = some (P', n')) (h1 : P.fs.length ≤ k) (h2 : ∀ f ∈ P.fs, f.code.length ≤ k) : (P'.fs.length ≤ k + 1 ∧ ∀ f ∈ P'.fs, f.code.length ≤ k + 1) ∧ 1 ≤ n' ∧ n' ≤ 3 := by
  have hsame : P'.fs = P.fs → P'.fs.length ≤ k + 1 ∧ ∀ f ∈ P'.fs, f.code.length ≤ k + 1 := fun e => by
    rw [e]
    exact ⟨by omega, fun f hf => by have := h2 f hf; omega⟩
  unfold fitsL at h
  split at h
  · injection h with h
    injection h with e1 e2
    exact ⟨hsame (by rw [← e1]), by omega, by omega⟩
  · split at h
    · obtain ⟨e1, e2⟩ := glob_out h
      exact ⟨hsame e1, by omega, by omega⟩
    · split at h
      · obtain ⟨e1, e2⟩ := mut_out h
        exact ⟨hsame e1, by omega, by omega⟩
      · obtain ⟨e1, e2⟩ := cod_out h
        refine ⟨?_, by omega, by omega⟩
        rcases e1 with ⟨a, b, kk, e⟩ | ⟨fs0, m, i, e, e4⟩
        · rw [e]
          refine ⟨by simp; omega, fun f hf => ?_⟩
          rcases List.mem_append.1 hf with q | q
          · have := h2 f q; omega
          · rw [List.mem_singleton.1 q]; simp
        · rw [e4]
          refine ⟨by rw [e] at h1; simp at h1 ⊢; omega, fun f hf => ?_⟩
          rcases List.mem_append.1 hf with q | q
          · have := h2 f (by rw [e]; exact List.mem_append_left _ q); omega
          · have := h2 m (by rw [e]; simp)
            rw [List.mem_singleton.1 q]
            unfold addI
            simp; omega
theorem ard_none (h : ARdAt W0 w rb fi nx P g s) {F : FuncId} {args : Array Value} (hc : Calls Tryd.prog F args w fun e w' => e = .returned (.bool false) ∧ Below w.heap.size w w') : Calls Tryd.prog F args w (ARdEnd W0 w rb fi none) :=
  hc.mono fun e w' ⟨h1, h2⟩ => ⟨h1, b_call h.be h2, fun P' n q => by cases q⟩
theorem ard_none2 (h : ARdAt W0 w rb fi nx P g s) {F : FuncId} {args : Array Value} (hc : Calls Tryd.prog F args w fun e w' => e = .returned (.bool false) ∧ w = w') : Calls Tryd.prog F args w (ARdEnd W0 w rb fi none) :=
  hc.mono fun e w' ⟨h1, h2⟩ => ⟨h1, by rw [← h2]; exact h.be, fun P' n q => by cases q⟩
theorem beq_of {a b : List UInt8} (h : a = b) : (a == b) = true := by rw [h]; simp
theorem beq_no {a b : List UInt8} (h : a ≠ b) : (a == b) = false := by simpa using h
theorem gcall_any (n : Nat) (hn : n ≤ 1) (h : ARdAt W0 w rb (decide (n = 0)) (nxV rb n) P g s) {wv : Value} {ws : List (List UInt8)} (hw : ReadR strE w wv ws) (hne : ws ≠ []) (hall : ∀ x ∈ ws, x ≠ [] ∧ x.length ≤ 1000000) : Calls Tryd.prog 25 #[rp rb, wv] w (ARdEnd W0 w rb (decide (n = 0)) (fitsL P n ws)) := by
  have hnx : nxV rb n = nxV rb 1 := by unfold nxV; rw [if_pos hn, if_pos (Nat.le_refl _)]
  match ws, hne, hw, hall with
  | a :: r, _, hw, hall =>
    obtain ⟨b, o, m, cap, rfl, hm, hmc, hcm, hb, c0, cr⟩ := awords_at hw
    by_cases hu : n = 0 ∧ a :: r = [sUnch]
    · obtain ⟨hu0, hu1⟩ := hu
      injection hu1 with ha hr
      have e : fitsL P n (a :: r) = some ({ P with u := true }, 1) := by unfold fitsL; rw [if_pos ⟨hu0, by rw [ha, hr]⟩]
      rw [e]
      have hm1 : ((m : Int) == 1) = true := by rw [hm, hr]; rfl
      subst hu0
      exact glob_unch h hnx hm1 hmc hcm hb c0 (beq_of ha)
    · have e : fitsL P n (a :: r) = globL P (a :: r) := by unfold fitsL; rw [if_neg hu, if_pos hn]
      rw [e]
      by_cases hg : a = sGlob ∧ r.length = 1
      · obtain ⟨ha, hr⟩ := hg
        match r, hr, cr, hm, hall with
        | [x], _, cr, hm, hall =>
          have e2 : globL P [a, x] = (listL x).bind fun l => some ({ P with gl := l }, 2) := by unfold globL; simp only [ha, if_true]
          rw [e2]
          have c1 : w.cell? ⟨b, o + 1, none⟩ = some (.string ⟨x.toArray⟩) := cr 0 (by simp)
          have hx := hall x (by simp)
          exact glob_yes h (by rw [hm]; rfl) hmc hcm hb c0 c1 (beq_of ha) hx.1 hx.2
      · have e2 : globL P (a :: r) = none := by
          unfold globL
          split
          · rename_i a' b' heq
            injection heq with q1 q2
            rw [if_neg]
            intro q
            exact hg ⟨by rw [q1]; exact q, by rw [q2]; rfl⟩
          · rfl
        rw [e2]
        refine ard_none2 h (glob_no h (by omega) hmc hcm hb c0 ?_ ?_)
        · by_cases q0 : n = 0
          · by_cases qa : a = sUnch
            · refine Or.inr (Or.inl (beq_false_of_ne (fun q => hu ⟨q0, ?_⟩)))
              have : r.length = 0 := by omega
              rw [qa, List.eq_nil_of_length_eq_zero this]
            · exact Or.inr (Or.inr (beq_no qa))
          · exact Or.inl (decide_eq_false q0)
        · by_cases qa : a = sGlob
          · refine Or.inl ?_
            have : r.length ≠ 1 := fun q => hg ⟨qa, q⟩
            simp; omega
          · exact Or.inr (beq_no qa)
theorem mcall_any (h : ARdAt W0 w rb fi (nxV rb 2) P g s) {wv : Value} {ws : List (List UInt8)} (hw : ReadR strE w wv ws) (hne : ws ≠ []) (hall : ∀ x ∈ ws, x ≠ [] ∧ x.length ≤ 1000000) : Calls Tryd.prog 55 #[rp rb, wv] w (ARdEnd W0 w rb fi (fitsL P 2 ws)) := by
  match ws, hne, hw, hall with
  | a :: r, _, hw, hall =>
    obtain ⟨b, o, m, cap, rfl, hm, hmc, hcm, hb, c0, cr⟩ := awords_at hw
    have e : fitsL P 2 (a :: r) = mutL P (a :: r) := by unfold fitsL; rw [if_neg (by omega), if_neg (by omega), if_pos rfl]
    rw [e]
    by_cases hg : a = sMut ∧ r.length = 1
    · obtain ⟨ha, hr⟩ := hg
      match r, hr, cr, hm, hall with
      | [x], _, cr, hm, hall =>
        have e2 : mutL P [a, x] = (valL x).bind fun m => some ({ P with m := (m : Int) }, 3) := by unfold mutL; simp only [ha, if_true]
        rw [e2]
        have c1 : w.cell? ⟨b, o + 1, none⟩ = some (.string ⟨x.toArray⟩) := cr 0 (by simp)
        have hx := hall x (by simp)
        exact mut_yes h (by rw [hm]; rfl) hmc hcm hb c0 c1 (beq_of ha) hx.2
    · have e2 : mutL P (a :: r) = none := by
        unfold mutL
        split
        · rename_i a' b' heq
          injection heq with q1 q2
          rw [if_neg]
          intro q
          exact hg ⟨by rw [q1]; exact q, by rw [q2]; rfl⟩
        · rfl
      rw [e2]
      refine ard_none2 h (mut_no h (by omega) hmc hcm hb c0 ?_)
      by_cases qa : a = sMut
      · refine Or.inl ?_
        have : r.length ≠ 1 := fun q => hg ⟨qa, q⟩
        simp; omega
      · exact Or.inr (beq_no qa)
theorem ccall_any (n : Nat) (hn : n = 3) (h : ARdAt W0 w rb fi (nxV rb 3) P g s) {wv : Value} {ws : List (List UInt8)} (hw : ReadR strE w wv ws) (hne : ws ≠ []) (hall : ∀ x ∈ ws, x ≠ [] ∧ x.length ≤ 1000000) (hs1 : P.fs.length ≤ 1000000) (hs2 : ∀ f ∈ P.fs, f.code.length ≤ 1000000) : Calls Tryd.prog 74 #[rp rb, wv] w (ARdEnd W0 w rb fi (fitsL P n ws)) := by
  subst hn
  match ws, hne, hw, hall with
  | a :: r, _, hw, hall =>
    have hO := aone_any w hw (fun x hx => (hall x hx).2)
    obtain ⟨b, o, m, cap, rfl, hm, hmc, hcm, hb, c0, cr⟩ := awords_at hw
    have e : fitsL P 3 (a :: r) = codL P (a :: r) := by unfold fitsL; rw [if_neg (by omega), if_neg (by omega), if_neg (by omega)]
    rw [e]
    have hm1 : 1 ≤ m := by omega
    by_cases ha : a = sFunc
    · have e1 : codL P (a :: r) = fnL P r := by unfold codL; simp only [ha, if_true]
      rw [e1]
      refine cod_func h hm1 hmc hcm hb c0 (beq_of ha) (fun e w' q => ⟨_, q.1⟩) ?_
      by_cases h3 : r.length = 3
      · match r, h3, cr, hm, hall with
        | [x, y, z], _, cr, hm, hall =>
          have c1 : w.cell? ⟨b, o + 1, none⟩ = some (.string ⟨x.toArray⟩) := cr 0 (by simp)
          have c2 : w.cell? ⟨b, o + 2, none⟩ = some (.string ⟨y.toArray⟩) := cr 1 (by simp)
          have c3 : w.cell? ⟨b, o + 3, none⟩ = some (.string ⟨z.toArray⟩) := cr 2 (by simp)
          have hx := hall x (by simp)
          have hy := hall y (by simp)
          have hz := hall z (by simp)
          have hm4 : m = 4 := by simpa using hm
          cases ex : listL x with
          | none =>
            have e2 : fnL P [x, y, z] = none := by unfold fnL; simp only [ex]; rfl
            rw [e2]
            exact ard_none h (fun_bad h hm4 hmc hcm hb c1 c2 c3 hx.1 hy.1 hz.1 hx.2 hy.2 hz.2 (Or.inl ex))
          | some la =>
            cases ey : listL y with
            | none =>
              have e2 : fnL P [x, y, z] = none := by unfold fnL; simp only [ex, ey]; rfl
              rw [e2]
              exact ard_none h (fun_bad h hm4 hmc hcm hb c1 c2 c3 hx.1 hy.1 hz.1 hx.2 hy.2 hz.2 (Or.inr (Or.inl ey)))
            | some lb =>
              cases ez : listL z with
              | none =>
                have e2 : fnL P [x, y, z] = none := by unfold fnL; simp only [ex, ey, ez]; rfl
                rw [e2]
                exact ard_none h (fun_bad h hm4 hmc hcm hb c1 c2 c3 hx.1 hy.1 hz.1 hx.2 hy.2 hz.2 (Or.inr (Or.inr (Or.inl ez))))
              | some c =>
                match c, ez with
                | [k], ez =>
                  have e2 : fnL P [x, y, z] = some ({ P with fs := P.fs ++ [⟨la, lb, k, []⟩] }, 3) := by unfold fnL; simp only [ex, ey, ez]; rfl
                  rw [e2]
                  exact fun_yes h hm4 hmc hcm hb c1 c2 c3 hx.1 hy.1 hz.1 hx.2 hy.2 hz.2 ex ey ez hs1
                | [], ez =>
                  have e2 : fnL P [x, y, z] = none := by unfold fnL; simp only [ex, ey, ez]; rfl
                  rw [e2]
                  exact ard_none h (fun_bad h hm4 hmc hcm hb c1 c2 c3 hx.1 hy.1 hz.1 hx.2 hy.2 hz.2 (Or.inr (Or.inr (Or.inr ⟨_, ez, by simp⟩))))
                | k :: k2 :: c, ez =>
                  have e2 : fnL P [x, y, z] = none := by unfold fnL; simp only [ex, ey, ez]; rfl
                  rw [e2]
                  exact ard_none h (fun_bad h hm4 hmc hcm hb c1 c2 c3 hx.1 hy.1 hz.1 hx.2 hy.2 hz.2 (Or.inr (Or.inr (Or.inr ⟨_, ez, by simp⟩))))
      · have e2 : fnL P r = none := by
          unfold fnL
          split
          · rename_i x y z
            exact absurd rfl h3
          · rfl
        rw [e2]
        exact ard_none2 h (fun_len h (by simp; omega))
    · have e1 : codL P (a :: r) = (instrL a r).bind fun i => if P.fs = [] then none else some ({ P with fs := addLast P.fs i }, 3) := by unfold codL; simp only [ha, if_false]
      rw [e1]
      cases ei : instrL a r with
      | none => exact ard_none h (cod_none h hm1 hmc hcm hb c0 (beq_no ha) hO (Or.inl ei))
      | some i =>
        by_cases hf : P.fs = []
        · have e2 : ((some i).bind fun i => if P.fs = [] then none else some (({ P with fs := addLast P.fs i } : PrM), 3)) = none := by show (if P.fs = [] then none else _) = _; rw [if_pos hf]
          rw [e2]
          exact ard_none h (cod_none h hm1 hmc hcm hb c0 (beq_no ha) hO (Or.inr hf))
        · have e2 : ((some i).bind fun i => if P.fs = [] then none else some (({ P with fs := addLast P.fs i } : PrM), 3)) = some ({ P with fs := addLast P.fs i }, 3) := by show (if P.fs = [] then none else _) = _; rw [if_neg hf]
          rw [e2]
          exact cod_some h hm1 hmc hcm hb c0 (beq_no ha) hO ei hf hs2
end
section
open Go.RowKit
set_option linter.unusedVariables false
set_option linter.unusedSimpArgs false
variable {W0 w : World} {rb : Nat} {fi : Bool} {nx : Value} {P : PrM} {g s : Sl}
/-- Where the library's MaxLen stands, a number stands. -/
def MaxAt (w : World) : Prop := 0 < w.heap.size ∧ ∃ m : Int, w.cell? ⟨0, 0, none⟩ = some (.int .i64 m)
theorem max_below {w' : World} (h : MaxAt w) (hb : Below w.heap.size w w') : MaxAt w' := by
  obtain ⟨h1, m, h2⟩ := h
  exact ⟨Nat.lt_of_lt_of_le h1 hb.size, m, ((bcell hb).1 0 0 h1).trans h2⟩
theorem below_drewN {w : World} (n : Nat) : Below w.heap.size w (w.drewN n) := b_drewN (Below.refl _ _) n
theorem ablank_any (x : Nat) (w : World) : Calls Tryd.prog 29 #[.int .i32 (x : Int)] w fun e w' => e = .returned (.bool (isBR x)) ∧ Below w.heap.size w w' := by
  have h1 : ((x : Int) == 32) = (x == 32) := by
    by_cases h : x = 32
    · rw [h]; rfl
    · rw [beq_false_of_ne (by omega), beq_false_of_ne h]
  have h2 : ((x : Int) == 9) = (x == 9) := by
    by_cases h : x = 9
    · rw [h]; rfl
    · rw [beq_false_of_ne (by omega), beq_false_of_ne h]
  have HE : Hid (isBR x = (((x : Int) == 32) || ((x : Int) == 9))) := Lib.hid (by unfold isBR; rw [h1, h2])
  clear h1 h2
  rw [HE.out]
  cases ha : ((x : Int) == 32) with
  | true =>
    go_enter Tryd.func29, Tryd.ntmps29
    go_wp2_with fail
    go_ret
    exact ⟨rfl, Below.refl _ _⟩
  | false =>
    cases hb : ((x : Int) == 9) with
    | true =>
      go_enter Tryd.func29, Tryd.ntmps29
      go_wp2_with fail
      go_ret
      exact ⟨rfl, Below.refl _ _⟩
    | false =>
      go_enter Tryd.func29, Tryd.ntmps29
      go_wp2_with fail
      go_ret
      exact ⟨rfl, Below.refl _ _⟩
/-- The words of a line without its remark. -/
theorem sfields_any (l : List UInt8) (w : World) (hl : l.length ≤ 1000000) : Calls Tryd.prog 28 #[.string ⟨(uptoC 59 l).toArray⟩, .func (.func 29) #[] #[]] w fun e w' => ∃ A, e = .returned (.slice (some ⟨A, 0, none⟩) (wordsL l).length (wordsL l).length) ∧ ReadR strE w' (.slice (some ⟨A, 0, none⟩) (wordsL l).length (wordsL l).length) (wordsL l) ∧ Below w.heap.size w w' := by
  have hu := uptoC_len 59 l
  have hws : (Lib.goFieldsP isBR ⟨(uptoC 59 l).toArray⟩).map (·.data.toList) = wordsL l := by
    rw [fields_words]
    show wordsP [] (uptoC 59 l) = wordsGo [] l
    rw [words_cut]
  have q := Tryd.strings_FieldsFunc_grows 29 #[] (fun _ _ => by kernel_rfl) isBR ⟨(uptoC 59 l).toArray⟩ w (by show (uptoC 59 l).toArray.size ≤ _; simp; omega) (fun W x _ _ => ablank_any x W)
  have hlen : (Lib.goFieldsP isBR ⟨(uptoC 59 l).toArray⟩).length = (wordsL l).length := by rw [← hws, List.length_map]
  refine q.mono fun e w' ⟨A, h1, h2, h3, h4⟩ => ⟨A, by rw [h1, hlen], ?_, h4⟩
  rw [hlen] at h3
  have e : (Lib.goFieldsP isBR ⟨(uptoC 59 l).toArray⟩).map Value.string = strE.row (wordsL l) := by
    rw [← hws]
    generalize Lib.goFieldsP isBR ⟨(uptoC 59 l).toArray⟩ = X
    induction X with
    | nil => rfl
    | cons x r ih =>
      rw [List.map_cons, List.map_cons, row_cons, ih]
      show _ = [Value.string ⟨x.data.toList.toArray⟩] ++ _
      rw [barr]; rfl
  rw [e] at h3
  exact ownR_read (c := strE) (E := STRT) h3
theorem ssplit_any (l : List UInt8) (w : World) (hl : l.length ≤ 1000000) (hm : MaxAt w) : Calls Tryd.prog 26 #[.string ⟨l.toArray⟩, .string ⟨#[10]⟩] w fun e w' => ∃ A, e = .returned (.slice (some ⟨A, 0, none⟩) (linesL l).length (linesL l).length) ∧ ReadR strE w' (.slice (some ⟨A, 0, none⟩) (linesL l).length (linesL l).length) (linesL l) ∧ tyB w' A = some STRT ∧ Below w.heap.size w w' := by
  obtain ⟨m, hm⟩ := hm.2
  have q := Tryd.strings_Split ⟨l.toArray⟩ ⟨#[10]⟩ m w (by show l.toArray.size < _; simp; omega) hm (by decide)
  have hcnt : Lib.countB ⟨l.toArray⟩ ⟨#[10]⟩ = Lib.count l [10] := rfl
  have hmap : (Lib.splitB ⟨#[10]⟩ 0 (Lib.countB ⟨l.toArray⟩ ⟨#[10]⟩) ⟨l.toArray⟩).map (·.data.toList) = linesL l := by
    rw [Lib.splitB_data, hcnt]
    exact split_lines _ l rfl
  have hlen : Lib.countB ⟨l.toArray⟩ ⟨#[10]⟩ + 1 = (linesL l).length := by
    rw [← hmap, List.length_map, Lib.splitB_all ⟨#[10]⟩ (by decide) 0 _ ⟨l.toArray⟩ rfl]
  refine q.mono fun e w' ⟨h1, h2⟩ => ⟨w.heap.size, by rw [h1, hlen], ?_, by rw [h2]; exact tyB_new _ _ _, by rw [h2]; exact b_alloc (Below.refl _ _) _⟩
  have e : (Lib.splitB ⟨#[10]⟩ 0 (Lib.countB ⟨l.toArray⟩ ⟨#[10]⟩) ⟨l.toArray⟩).map Value.string = strE.row (linesL l) := by
    rw [← hmap]
    generalize Lib.splitB ⟨#[10]⟩ 0 (Lib.countB ⟨l.toArray⟩ ⟨#[10]⟩) ⟨l.toArray⟩ = X
    induction X with
    | nil => rfl
    | cons x r ih =>
      rw [List.map_cons, List.map_cons, row_cons, ih]
      show _ = [Value.string ⟨x.data.toList.toArray⟩] ++ _
      rw [barr]; rfl
  have hb := blk_new w ((Lib.splitB ⟨#[10]⟩ 0 (Lib.countB ⟨l.toArray⟩ ⟨#[10]⟩) ⟨l.toArray⟩).map Value.string).toArray 9
  rw [← h2] at hb
  have hb2 : Blk w' w.heap.size (strE.row (linesL l)) := by rw [← e]; exact hb
  exact readR_blk hb2 (Nat.le_refl _) (by have := lines_len l []; unfold maxLen; show (linesGo [] l).length ≤ _; omega)
theorem scut_any (l : List UInt8) (w : World) (hl : l.length ≤ 1000000) (hm : MaxAt w) : Calls Tryd.prog 27 #[.string ⟨l.toArray⟩, .string ⟨#[59]⟩] w fun e w' => ∃ (x : List UInt8) (y : Bool), e = .returned (.tuple #[.string ⟨(uptoC 59 l).toArray⟩, .string ⟨x.toArray⟩, .bool y]) ∧ Below w.heap.size w w' := by
  obtain ⟨m, hm⟩ := hm.2
  have q := Tryd.strings_Cut ⟨l.toArray⟩ ⟨#[59]⟩ m w (by show l.toArray.size < _; simp; omega) hm
  refine q.mono fun e w' ⟨h1, n, h2⟩ => ⟨(Lib.cut l [59]).2.1, (Lib.cut l [59]).2.2, ?_, by rw [h2]; exact below_drewN n⟩
  have e2 : (Lib.cut (⟨l.toArray⟩ : ByteArray).data.toList (⟨#[59]⟩ : ByteArray).data.toList).1 = uptoC 59 l := cut_upto l 59
  rw [h1, e2]
end
end Go.Proofs.YtedmjlhgpdeafaaDoor
