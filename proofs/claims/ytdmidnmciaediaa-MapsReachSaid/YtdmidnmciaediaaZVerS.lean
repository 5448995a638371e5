/- Layer 26: what holds of the facts of a program that is checked, as plain lists. No program in sight. No conditions. -/
import Derived.Test.YtdmidnmciaediaaZVerO
namespace Go.Proofs.Ytdmidnmciaediaa
open Go.RowKit
set_option linter.unusedVariables false
set_option linter.unusedSimpArgs false
def ClosedAt (P : PrM) (f : FnM) (F : List (Option (List Int))) (k : Nat) (st : List Int) : Prop := (effect P f k st).c = 0 ∧ ∀ j ∈ (effect P f k st).p, F.getD j.toNat none = some (effect P f k st).t
def GrowF (F F' : List (Option (List Int))) : Prop := ∀ k x, F.getD k none = some x → F'.getD k none = some x
theorem closed_grow {P : PrM} {f : FnM} {F F' : List (Option (List Int))} {k : Nat} {st : List Int} (h : ClosedAt P f F k st) (hg : GrowF F F') : ClosedAt P f F' k st := ⟨h.1, fun j hj => hg _ _ (h.2 j hj)⟩
structure GoodS (P : PrM) (f : FnM) (s : StM) : Prop where
  lf : s.F.length = f.code.length
  lo : s.O.length = f.code.length
  sm : ∀ k x, s.F.getD k none = some x → x.length ≤ 16
  op : ∀ k, s.O.getD k false = true → (s.F.getD k none).isSome = true
  inv : ∀ k st, s.F.getD k none = some st → s.O.getD k false = true ∨ ClosedAt P f s.F k st
  z : s.F.getD 0 none = some []
/-- What one meeting does. -/
structure MeetR (s s' : StM) : Prop where
  lf : s'.F.length = s.F.length
  lo : s'.O.length = s.O.length
  grow : GrowF s.F s'.F
  new : ∀ j x, s'.F.getD j none = some x → s.F.getD j none = some x ∨ s'.O.getD j false = true
  keep : ∀ j, s.O.getD j false = true → s'.O.getD j false = true
  op : (∀ k, s.O.getD k false = true → (s.F.getD k none).isSome = true) → ∀ k, s'.O.getD k false = true → (s'.F.getD k none).isSome = true
theorem meetR_refl (s : StM) : MeetR s s := ⟨rfl, rfl, fun _ _ h => h, fun _ _ h => Or.inl h, fun _ h => h, fun h => h⟩
theorem meetR_trans {s s' s'' : StM} (h : MeetR s s') (h' : MeetR s' s'') : MeetR s s'' :=
  ⟨h'.lf.trans h.lf, h'.lo.trans h.lo, fun k x q => h'.grow k x (h.grow k x q), fun j x q => by
    rcases h'.new j x q with z | z
    · rcases h.new j x z with y | y
      · exact Or.inl y
      · exact Or.inr (h'.keep j y)
    · exact Or.inr z, fun j q => h'.keep j (h.keep j q), fun q => h'.op (h.op q)⟩
theorem meetM_R {s : StM} {k : Nat} {st : List Int} (hk : k < s.F.length) (hl : s.O.length = s.F.length) : MeetR s (meetM s k st).2 ∧ ((meetM s k st).1 = true → (meetM s k st).2.F.getD k none = some st) := by
  unfold meetM
  cases hm : s.F.getD k none with
  | some y =>
    refine ⟨meetR_refl s, fun h => ?_⟩
    have e : y = st := of_decide_eq_true h
    show s.F.getD k none = some st
    rw [hm, e]
  | none =>
    refine ⟨⟨by simp, by simp, fun j x h => ?_, fun j x h => ?_, fun j h => ?_, fun hop j h => ?_⟩, fun _ => ?_⟩
    · show (s.F.set k (some st)).getD j none = some x
      rw [getD_set _ _ _ _ _ hk]
      split
      · rename_i e; subst e; rw [hm] at h; cases h
      · exact h
    · have h : (s.F.set k (some st)).getD j none = some x := h
      rw [getD_set _ _ _ _ _ hk] at h
      split at h
      · rename_i e; subst e
        right
        show (s.O.set k true).getD k false = true
        rw [getD_set _ _ _ _ _ (by omega), if_pos rfl]
      · exact Or.inl h
    · show (s.O.set k true).getD j false = true
      rw [getD_set _ _ _ _ _ (by omega)]
      split
      · rfl
      · exact h
    · have h : (s.O.set k true).getD j false = true := h
      show ((s.F.set k (some st)).getD j none).isSome = true
      rw [getD_set _ _ _ _ _ (by omega)] at h
      rw [getD_set _ _ _ _ _ hk]
      split
      · rfl
      · rename_i e
        rw [if_neg e] at h
        exact hop j h
    · show (s.F.set k (some st)).getD k none = some st
      rw [getD_set _ _ _ _ _ hk, if_pos rfl]
theorem meets_R {st : List Int} (hst : st.length ≤ 16) : ∀ (on : List Int) (s s' : StM), meets s st on = .inl s' → (∀ j ∈ on, j.toNat < s.F.length) → s.O.length = s.F.length → (∀ k x, s.F.getD k none = some x → x.length ≤ 16) → MeetR s s' ∧ (∀ j ∈ on, s'.F.getD j.toNat none = some st) ∧ (∀ k x, s'.F.getD k none = some x → x.length ≤ 16) ∧ mu s' ≤ mu s
  | [], s, s', h, _, _, hs => by
    injection h with h; subst h
    exact ⟨meetR_refl _, fun j hj => absurd hj (List.not_mem_nil), hs, Nat.le_refl _⟩
  | j :: on, s, s', h, hb, hl, hs => by
    rw [meets] at h
    split at h
    · rename_i h1
      have hj := hb j (List.mem_cons_self)
      obtain ⟨r1, r2⟩ := meetM_R (k := j.toNat) (st := st) hj hl
      have hmu := (meet_mu (s := s) (k := j.toNat) (st := st) hj).1
      obtain ⟨q1, q2, q3, q4⟩ := meets_R hst on _ s' h (fun i hi => by rw [r1.lf]; exact hb i (List.mem_cons_of_mem _ hi)) (by rw [r1.lo, r1.lf]; exact hl) (meet_sm hs hst)
      refine ⟨meetR_trans r1 q1, fun i hi => ?_, q3, Nat.le_trans q4 hmu⟩
      rcases List.mem_cons.1 hi with e | e
      · rw [e]; exact q1.grow _ _ (r2 h1)
      · exact q2 i e
    · cases h
theorem goodS_step {P : PrM} {f : FnM} {s s' : StM} {k : Nat} (hG : GoodE P f) (h : GoodS P f s) (hk : firstT s.O = some k) (hc : (effect P f k ((s.F.getD k none).getD [])).c = 0)
    (hm : meets ⟨s.F, s.O.set k false⟩ (effect P f k ((s.F.getD k none).getD [])).t (effect P f k ((s.F.getD k none).getD [])).p = .inl s') : GoodS P f s' ∧ mu s' ≤ mu ⟨s.F, s.O.set k false⟩ := by
  obtain ⟨k1, k2, k3⟩ := muO_first _ _ hk
  have hkl : k < f.code.length := by rw [← h.lo]; exact k1
  have hsome := h.op k k2
  obtain ⟨st, hst⟩ : ∃ st, s.F.getD k none = some st := by
    cases q : s.F.getD k none with
    | none => rw [q] at hsome; cases hsome
    | some st => exact ⟨st, rfl⟩
  rw [hst, Option.getD_some] at hc hm
  obtain ⟨e1, e2, e3⟩ := eff_on hG hkl hc
  have hb : ∀ j ∈ (effect P f k st).p, j.toNat < s.F.length := fun j hj => by
    have := e1 j hj; rw [h.lf]; omega
  obtain ⟨r, q2, q3, q4⟩ := meets_R e2 _ _ _ hm hb (by show (s.O.set k false).length = s.F.length; rw [List.length_set, h.lo, h.lf]) h.sm
  have hO : ∀ j, (s.O.set k false).getD j false = true → s.O.getD j false = true := fun j hj => by
    rw [getD_set _ _ _ _ _ k1] at hj
    split at hj
    · cases hj
    · exact hj
  refine ⟨⟨r.lf.trans h.lf, r.lo.trans (by show (s.O.set k false).length = _; rw [List.length_set]; exact h.lo), q3, r.op (fun j hj => h.op j (hO j hj)), fun j x hx => ?_, r.grow 0 [] h.z⟩, q4⟩
  rcases r.new j x hx with z | z
  · have z : s.F.getD j none = some x := z
    rcases h.inv j x z with y | y
    · by_cases e : j = k
      · subst e
        rw [hst] at z
        injection z with z
        subst z
        exact Or.inr ⟨hc, q2⟩
      · refine Or.inl (r.keep j ?_)
        show (s.O.set k false).getD j false = true
        rw [getD_set _ _ _ _ _ k1, if_neg (fun z => e z.symm)]
        exact y
    · exact Or.inr (closed_grow y r.grow)
  · exact Or.inl z
theorem runV_good {P : PrM} {f : FnM} (hG : GoodE P f) : ∀ (n : Nat) (s : StM) {M : List (Option (List Int))}, mu s ≤ n → GoodS P f s → runV P f n s = .inl M → ∃ s', firstT s'.O = none ∧ GoodS P f s' ∧ M = s'.F := by
  intro n
  induction n with
  | zero =>
    intro s M hmu h hr
    cases hf : firstT s.O with
    | none => rw [runV_stop hf] at hr; injection hr with hr; exact ⟨s, hf, h, hr.symm⟩
    | some k => obtain ⟨n, e, _⟩ := run_step (P := P) (f := f) hf hmu; omega
  | succ n ih =>
    intro s M hmu h hr
    cases hf : firstT s.O with
    | none => rw [runV_stop hf] at hr; injection hr with hr; exact ⟨s, hf, h, hr.symm⟩
    | some k =>
      obtain ⟨n', e, hm1, hr2⟩ := run_step (P := P) (f := f) hf hmu
      have e : n = n' := by omega
      subst e
      rw [hr2] at hr
      split at hr
      · cases hr
      · rename_i hc
        have hc : (effect P f k ((s.F.getD k none).getD [])).c = 0 := by
          by_cases q : (effect P f k ((s.F.getD k none).getD [])).c = 0
          · exact q
          · exact absurd q hc
        split at hr
        · cases hr
        · rename_i s' hm
          obtain ⟨g1, g2⟩ := goodS_step hG h hf hc hm
          exact ih s' (Nat.le_trans g2 hm1) g1 hr
theorem goodS_start (P : PrM) (f : FnM) (h : 0 < f.code.length) : GoodS P f (start f.code.length) ∧ mu (start f.code.length) ≤ 2 * f.code.length := by
  have h3 : ∀ m, muF (List.replicate m none) = 2 * m := fun m => by
    induction m with
    | zero => rfl
    | succ m ih => rw [List.replicate_succ]; simp only [muF]; omega
  have h4 : ∀ m, muO (List.replicate m false) = 0 := fun m => by
    induction m with
    | zero => rfl
    | succ m ih => rw [List.replicate_succ]; simp only [muO]; exact ih
  have h1 := muF_set (List.replicate f.code.length none) 0 [] (by simpa using h) (getD_rep _ _ _)
  have h2 := muO_true (List.replicate f.code.length false) 0
  have h5 := h3 f.code.length
  have h6 := h4 f.code.length
  rw [start_eq h]
  have hF : ∀ k, ((List.replicate f.code.length (none : Option (List Int))).set 0 (some [])).getD k none = if 0 = k then some [] else none := fun k => by
    rw [getD_set _ _ _ _ _ (by simpa using h), getD_rep]
  have hO : ∀ k, ((List.replicate f.code.length false).set 0 true).getD k false = if 0 = k then true else false := fun k => by
    rw [getD_set _ _ _ _ _ (by simpa using h), getD_rep]
  refine ⟨⟨by simp, by simp, fun k x hx => ?_, fun k hk => ?_, fun k x hx => ?_, ?_⟩, ?_⟩
  · have hx : ((List.replicate f.code.length (none : Option (List Int))).set 0 (some [])).getD k none = some x := hx
    rw [hF] at hx
    split at hx
    · injection hx with hx; subst hx; simp
    · cases hx
  · have hk : ((List.replicate f.code.length false).set 0 true).getD k false = true := hk
    show (((List.replicate f.code.length (none : Option (List Int))).set 0 (some [])).getD k none).isSome = true
    rw [hO] at hk
    rw [hF]
    split at hk
    · rename_i e; rw [if_pos e]; rfl
    · cases hk
  · have hx : ((List.replicate f.code.length (none : Option (List Int))).set 0 (some [])).getD k none = some x := hx
    left
    show ((List.replicate f.code.length false).set 0 true).getD k false = true
    rw [hF] at hx
    rw [hO]
    split at hx
    · rename_i e; rw [if_pos e]
    · cases hx
  · show ((List.replicate f.code.length (none : Option (List Int))).set 0 (some [])).getD 0 none = some []
    rw [hF, if_pos rfl]
  · show muF ((List.replicate f.code.length none).set 0 (some [])) + muO ((List.replicate f.code.length false).set 0 true) ≤ _
    omega
/-- What holds of a function's facts. -/
structure FinF (P : PrM) (f : FnM) (M : List (Option (List Int))) : Prop where
  len : M.length = f.code.length
  z : M.getD 0 none = some []
  sm : ∀ k x, M.getD k none = some x → x.length ≤ 16
  cl : ∀ k x, M.getD k none = some x → ClosedAt P f M k x
theorem funM_fin {P : PrM} {f : FnM} {M : List (Option (List Int))} (hG : GoodE P f) (h0 : 0 < f.code.length) (h : funM P f = .inl M) : FinF P f M := by
  obtain ⟨g1, g2⟩ := goodS_start P f h0
  obtain ⟨s', q1, q2, rfl⟩ := runV_good hG _ _ g2 g1 h
  refine ⟨q2.lf, q2.z, q2.sm, fun k x hx => ?_⟩
  rcases q2.inv k x hx with z | z
  · rw [first_none _ q1 k] at z; cases z
  · exact z
theorem chkFs_all {P : PrM} : ∀ (fs : List FnM) (j : Nat) {Ms : List (List (Option (List Int)))}, chkFs P fs j = .inl Ms → Ms.length = fs.length ∧ ∀ k, (h : k < fs.length) → (h' : k < Ms.length) → funM P fs[k] = .inl Ms[k]
  | [], j, Ms, h => by
    injection h with h; subst h
    exact ⟨rfl, fun k hk => absurd hk (Nat.not_lt_zero _)⟩
  | f :: fs, j, Ms, h => by
    rw [chkFs] at h
    split at h
    · cases h
    · rename_i M hM
      split at h
      · rename_i Ms' hMs
        injection h with h; subst h
        obtain ⟨i1, i2⟩ := chkFs_all fs (j + 1) hMs
        refine ⟨by simp [i1], fun k hk hk' => ?_⟩
        cases k with
        | zero => exact hM
        | succ k => exact i2 k (by simpa using hk) (by simpa using hk')
      · cases h
theorem checkM_all {P : PrM} {Ms : List (List (Option (List Int)))} (h : checkM P = .inl Ms) : mayP P = true ∧ Ms.length = P.fs.length ∧ ∀ k, (h : k < P.fs.length) → (h' : k < Ms.length) → FinF P P.fs[k] Ms[k] := by
  unfold checkM at h
  split at h
  · rename_i hm
    split at h
    · cases h
    · obtain ⟨i1, i2⟩ := chkFs_all _ _ h
      refine ⟨hm, i1, fun k hk hk' => ?_⟩
      obtain ⟨_, _, g3⟩ := may_good hm
      obtain ⟨_, g5, g6, _⟩ := g3 _ (List.getElem_mem hk)
      exact funM_fin g5 g6 (i2 k hk hk')
  · cases h
end Go.Proofs.Ytdmidnmciaediaa
