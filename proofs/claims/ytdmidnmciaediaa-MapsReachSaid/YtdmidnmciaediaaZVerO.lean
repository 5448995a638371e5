/- Layer 26: the document's going through a function: what is in memory, and how it goes with the plain model. Conditions: those stated. -/
import Derived.Test.YtdmidnmciaediaaZVerY
namespace Go.Proofs.Ytdmidnmciaediaa
open Go.RowKit
set_option linter.unusedVariables false
set_option linter.unusedSimpArgs false
attribute [local go_sem] over_cell over_frozen
def DFT : TypeId := 91
structure DocAt (w : World) (g o n : Nat) (F : List (Bool × Sl)) (D : List Bool) (M : List (Option (List Int))) : Prop where
  fr : Blk w g (factE.row F)
  ob : Blk w o (bolE.row D)
  ng : NoInt w g
  no : NoInt w o
  e3 : g ≠ o
  lf : F.length = n
  lo : D.length = n
  ok : FactsOk w F M
  ty : tyB w g = some DFT
  so : ∀ k, (h : k < F.length) → slOk w 3 F[k].2.a F[k].2.n
theorem doc_below {w w' : World} {g o n : Nat} {F : List (Bool × Sl)} {O : List Bool} {M : List (Option (List Int))} (h : DocAt w g o n F O M) (hb : Below w.heap.size w w') : DocAt w' g o n F O M :=
  ⟨blk_below h.fr hb, blk_below h.ob hb, noInt_below h.ng h.fr.1 hb, noInt_below h.no h.ob.1 hb, h.e3, h.lf, h.lo, ⟨h.ok.1, fun k hk => ⟨(h.ok.2 k hk).1, readI_below (h.ok.2 k hk).2 hb⟩⟩, tyB_call h.ty hb, fun k hk => slOk_below (h.so k hk) hb⟩
theorem doc_done {w : World} {g o n k : Nat} {F : List (Bool × Sl)} {O : List Bool} {M : List (Option (List Int))} (h : DocAt w g o n F O M) (hk : k < n) : DocAt (w.setCell ⟨o, k, none⟩ (.bool true)) g o n F (O.set k true) M := by
  have hO : k < O.length := by rw [h.lo]; exact hk
  have g2 : w.grownBy (w.setCell ⟨o, k, none⟩ (.bool true)) (some o) := gb_set (gb_refl _ _) _ _ _
  have lo1 : k < (bolE.row O).length := by rw [row_length]; show _ < O.length * 1; omega
  have e := blk_elt (c := bolE) h.ob hO true
  have e2 : Blk (w.setCell ⟨o, k * 1, none⟩ (.bool true)) o (bolE.row (O.set k true)) := e
  rw [Nat.mul_one] at e2
  refine ⟨blk_grown h.fr g2 (fun e => h.e3 (by injection e)), e2, noInt_grown h.ng h.fr.1 h.e3 g2, noInt_set h.no h.ob lo1 (fun i e => by cases e), h.e3, h.lf, by rw [List.length_set]; exact h.lo, ⟨h.ok.1, fun j hj => ?_⟩, by rw [tyB_set]; exact h.ty, fun j hj => slOk_keep (h.so j hj) (fun b hb => by rw [tyB_set]; exact hb)⟩
  exact ⟨(h.ok.2 j hj).1, readI_no (h.ok.2 j hj).2 h.no g2⟩
theorem tyB_sets (g k : Nat) : ∀ (us : List Value) (o : Nat) (w : World), tyB (w.setCells g o us) k = tyB w k
  | [], _, _ => rfl
  | v :: r, o, w => by rw [World.setCells, tyB_sets g k r, tyB_set]
theorem doc_set {w : World} {g o n k : Nat} {F : List (Bool × Sl)} {O : List Bool} {M : List (Option (List Int))} {st : List Int} {sa : Option Addr} {sc : Nat} (h : DocAt w g o n F O M) (hk : k < n) (hst : ReadI w (.slice sa st.length sc) st) (hso : slOk w 3 sa st.length) :
    DocAt (w.setCells g (k * 2) [.bool true, .slice sa st.length sc]) g o n (F.set k (true, ⟨sa, st.length, sc⟩)) O (M.set k (some st)) ∧ ∀ v xs, ReadI w v xs → ReadI (w.setCells g (k * 2) [.bool true, .slice sa st.length sc]) v xs := by
  have hF : k < F.length := by rw [h.lf]; exact hk
  have g1 : w.grownBy (w.setCells g (k * 2) [.bool true, .slice sa st.length sc]) (some g) := gb_sets _ _ (gb_refl _ _)
  have lg : k * 2 + 1 < (factE.row F).length := by rw [row_length]; show _ < F.length * 2; omega
  have ng1 : NoInt (w.setCells g (k * 2) [.bool true, .slice sa st.length sc]) g := by
    show NoInt ((w.setCell ⟨g, k * 2, none⟩ (.bool true)).setCell ⟨g, k * 2 + 1, none⟩ (.slice sa st.length sc)) g
    exact noInt_set (noInt_set h.ng h.fr (by omega) (fun i e => by cases e)) (blk_set h.fr _ _) (by simp; omega) (fun i e => by cases e)
  have fr1 : Blk (w.setCells g (k * 2) [.bool true, .slice sa st.length sc]) g (factE.row (F.set k (true, ⟨sa, st.length, sc⟩))) := blk_elt (c := factE) h.fr hF (true, ⟨sa, st.length, sc⟩)
  have hl := h.ok.1
  have R : ∀ v xs, ReadI w v xs → ReadI (w.setCells g (k * 2) [.bool true, .slice sa st.length sc]) v xs := fun v xs hv => readI_no hv h.ng g1
  refine ⟨⟨fr1, blk_grown h.ob g1 (fun e => h.e3 (by injection e with e; exact e.symm)), ng1, noInt_grown h.no h.ob.1 (fun e => h.e3 e.symm) g1, h.e3, by rw [List.length_set]; exact h.lf, h.lo, ⟨by rw [List.length_set, List.length_set]; exact hl, fun j hj => ?_⟩, by rw [tyB_sets]; exact h.ty, fun j hj => ?_⟩, R⟩
  · by_cases e : j = k
    · subst e
      rw [List.getElem_set_self, List.getD_eq_getElem?_getD, List.getElem?_set_self (by omega)]
      exact ⟨rfl, R _ _ hst⟩
    · have hj' : j < F.length := by simpa using hj
      have q := h.ok.2 j hj'
      rw [List.getElem_set_ne (fun z => e z.symm), List.getD_eq_getElem?_getD, List.getElem?_set_ne (fun z => e z.symm), ← List.getD_eq_getElem?_getD]
      exact ⟨q.1, R _ _ q.2⟩
  · refine slOk_keep (w := w) ?_ (fun b hb => by rw [tyB_sets]; exact hb)
    by_cases e : j = k
    · subst e
      rw [List.getElem_set_self]; exact hso
    · rw [List.getElem_set_ne (fun z => e z.symm)]
      exact h.so j (by simpa using hj)
/-- Which are open, told by which are done. -/
structure OpenRel (s : StM) (D : List Bool) : Prop where
  o : ∀ k, s.O.getD k false = ((s.F.getD k none).isSome && !(D.getD k false))
  d : ∀ k, D.getD k false = true → (s.F.getD k none).isSome = true
theorem getD_set {α : Type} (l : List α) (k j : Nat) (x d : α) (hk : k < l.length) : (l.set k x).getD j d = if k = j then x else l.getD j d := by
  rw [List.getD_eq_getElem?_getD, List.getElem?_set]
  split
  · rfl
  · rw [← List.getD_eq_getElem?_getD]
theorem getD_rep {α : Type} (n j : Nat) (x : α) : (List.replicate n x).getD j x = x := by
  rw [List.getD_eq_getElem?_getD, List.getElem?_replicate]
  split <;> rfl
theorem start_eq {n : Nat} (h : 0 < n) : start n = ⟨(List.replicate n none).set 0 (some []), (List.replicate n false).set 0 true⟩ := by
  unfold start meetM
  rw [show (List.replicate n (none : Option (List Int))).getD 0 none = none from getD_rep n 0 none]
theorem rel_start {n : Nat} (h : 0 < n) : OpenRel (start n) (List.replicate n false) := by
  rw [start_eq h]
  refine ⟨fun k => ?_, fun k hk => ?_⟩
  · show ((List.replicate n false).set 0 true).getD k false = _
    rw [getD_set _ _ _ _ _ (by simpa using h), getD_rep]
    show _ = ((((List.replicate n (none : Option (List Int))).set 0 (some [])).getD k none).isSome && !false)
    rw [getD_set _ _ _ _ _ (by simpa using h), getD_rep]
    by_cases e : 0 = k
    · rw [if_pos e, if_pos e]; rfl
    · rw [if_neg e, if_neg e]; rfl
  · rw [getD_rep] at hk; cases hk
theorem rel_done {s : StM} {D : List Bool} {k : Nat} (h : OpenRel s D) (hk : k < s.O.length) (hd : k < D.length) (ho : s.O.getD k false = true) : OpenRel ⟨s.F, s.O.set k false⟩ (D.set k true) := by
  have h0 := h.o k
  rw [ho] at h0
  refine ⟨fun j => ?_, fun j hj => ?_⟩
  · show (s.O.set k false).getD j false = ((s.F.getD j none).isSome && !((D.set k true).getD j false))
    rw [getD_set _ _ _ _ _ hk, getD_set _ _ _ _ _ hd]
    by_cases e : k = j
    · rw [if_pos e, if_pos e]; simp
    · rw [if_neg e, if_neg e]; exact h.o j
  · show (s.F.getD j none).isSome = true
    rw [getD_set _ _ _ _ _ hd] at hj
    by_cases e : k = j
    · subst e
      cases q : (s.F.getD k none).isSome with
      | true => rfl
      | false => rw [q] at h0; simp at h0
    · rw [if_neg e] at hj; exact h.d j hj
theorem rel_new {s : StM} {D : List Bool} {k : Nat} {st : List Int} (h : OpenRel s D) (hk : k < s.F.length) (hl : s.O.length = s.F.length) (hn : s.F.getD k none = none) : OpenRel ⟨s.F.set k (some st), s.O.set k true⟩ D := by
  have hD : D.getD k false = false := by
    cases q : D.getD k false with
    | false => rfl
    | true => have := h.d k q; rw [hn] at this; cases this
  refine ⟨fun j => ?_, fun j hj => ?_⟩
  · show (s.O.set k true).getD j false = (((s.F.set k (some st)).getD j none).isSome && !(D.getD j false))
    rw [getD_set _ _ _ _ _ (by omega), getD_set _ _ _ _ _ hk]
    by_cases e : k = j
    · subst e
      rw [if_pos rfl, if_pos rfl, hD]; rfl
    · rw [if_neg e, if_neg e]; exact h.o j
  · show ((s.F.set k (some st)).getD j none).isSome = true
    rw [getD_set _ _ _ _ _ hk]
    by_cases e : k = j
    · rw [if_pos e]; rfl
    · rw [if_neg e]; exact h.d j hj
theorem set_same {α : Type} (l : List α) (k : Nat) (x d : α) (hk : k < l.length) (h : l.getD k d = x) : l.set k x = l := by
  rw [List.getD_eq_getElem?_getD, List.getElem?_eq_getElem hk, Option.getD_some] at h
  rw [← h, List.set_getElem_self]
theorem muO_set : ∀ (D : List Bool) (k : Nat), k < D.length → D.getD k false = false → muO (D.set k true) = muO D + 1
  | false :: D, 0, _, _ => by simp [muO]; omega
  | true :: D, 0, _, h => by simp at h
  | true :: D, k + 1, hk, h => by
    have := muO_set D k (by simpa using hk) (by simpa using h)
    simp only [List.set_cons_succ, muO]; omega
  | false :: D, k + 1, hk, h => by
    have := muO_set D k (by simpa using hk) (by simpa using h)
    simp only [List.set_cons_succ, muO]; omega
theorem muO_le : ∀ (D : List Bool), muO D ≤ D.length
  | [] => Nat.le_refl _
  | true :: D => by have := muO_le D; simp only [muO, List.length_cons]; omega
  | false :: D => by have := muO_le D; simp only [muO, List.length_cons]; omega
theorem muO_all : ∀ (D : List Bool), muO D = D.length → ∀ k, k < D.length → D.getD k false = true
  | true :: D, _, 0, _ => rfl
  | true :: D, h, k + 1, hk => by
    have := muO_all D (by simp only [muO, List.length_cons] at h; omega) k (by simpa using hk)
    simpa using this
  | false :: D, h, _, _ => by have := muO_le D; simp only [muO, List.length_cons] at h; omega
end Go.Proofs.Ytdmidnmciaediaa
