/- Layer 26: going through a function: the plain model; what is in memory; the contracts of meet, and of slices.Index over truths. Conditions: those stated. -/
import Derived.Test.YtdmidnmciaediaaZVerM
import Derived.Test.YtdmidnmciaediaaZHeldE
import Derived.Test.YtdmidnmciaediaaZRow
namespace Go.Proofs.Ytdmidnmciaediaa
open Go.RowKit
set_option linter.unusedVariables false
set_option linter.unusedSimpArgs false
attribute [local go_sem] over_cell over_frozen
structure StM where
  F : List (Option (List Int))
  O : List Bool
def meetM (s : StM) (k : Nat) (st : List Int) : Bool × StM := match s.F.getD k none with
  | some x => (decide (x = st), s)
  | none => (true, ⟨s.F.set k (some st), s.O.set k true⟩)
def meets (s : StM) (st : List Int) : List Int → Sum StM Int
  | [] => .inl s
  | j :: on => if (meetM s j.toNat st).1 = true then meets (meetM s j.toNat st).2 st on else .inr j
def firstT : List Bool → Option Nat
  | [] => none
  | true :: _ => some 0
  | false :: O => (firstT O).map (· + 1)
def runV (P : PrM) (f : FnM) : Nat → StM → Sum (List (Option (List Int))) (Int × Int)
  | 0, s => .inl s.F
  | n + 1, s => match firstT s.O with
    | none => .inl s.F
    | some k =>
      if (effect P f k ((s.F.getD k none).getD [])).c ≠ 0 then .inr ((k : Int), (effect P f k ((s.F.getD k none).getD [])).c)
      else match meets ⟨s.F, s.O.set k false⟩ (effect P f k ((s.F.getD k none).getD [])).t (effect P f k ((s.F.getD k none).getD [])).p with
        | .inr j => .inr (j, 4)
        | .inl s' => runV P f n s'
def start (n : Nat) : StM := (meetM ⟨List.replicate n none, List.replicate n false⟩ 0 []).2
def funM (P : PrM) (f : FnM) : Sum (List (Option (List Int))) (Int × Int) := runV P f (2 * f.code.length) (start f.code.length)
/-- How much is left to do. -/
def muF : List (Option (List Int)) → Nat
  | [] => 0
  | none :: F => 2 + muF F
  | some _ :: F => muF F
def muO : List Bool → Nat
  | [] => 0
  | true :: O => 1 + muO O
  | false :: O => muO O
theorem muF_set : ∀ (F : List (Option (List Int))) (k : Nat) (st : List Int), k < F.length → F.getD k none = none → muF (F.set k (some st)) + 2 = muF F
  | none :: F, 0, st, _, _ => by simp [muF]; omega
  | some _ :: F, 0, st, _, h => by simp at h
  | none :: F, k + 1, st, hk, h => by
    have := muF_set F k st (by simpa using hk) (by simpa using h)
    simp only [List.set_cons_succ, muF]; omega
  | some _ :: F, k + 1, st, hk, h => by
    have := muF_set F k st (by simpa using hk) (by simpa using h)
    simp only [List.set_cons_succ, muF]; omega
theorem muO_true : ∀ (O : List Bool) (k : Nat), muO (O.set k true) ≤ muO O + 1
  | [], _ => by simp [muO]
  | true :: O, 0 => by simp [muO]
  | false :: O, 0 => by simp [muO]; omega
  | true :: O, k + 1 => by have := muO_true O k; simp only [List.set_cons_succ, muO]; omega
  | false :: O, k + 1 => by have := muO_true O k; simp only [List.set_cons_succ, muO]; omega
theorem muO_first : ∀ (O : List Bool) (k : Nat), firstT O = some k → k < O.length ∧ O.getD k false = true ∧ muO (O.set k false) + 1 = muO O
  | true :: O, k, h => by
    have : k = 0 := by simp [firstT] at h; exact h.symm
    subst this
    exact ⟨by simp, rfl, by simp [muO]; omega⟩
  | false :: O, k, h => by
    simp only [firstT, Option.map_eq_some_iff] at h
    obtain ⟨j, hj, rfl⟩ := h
    obtain ⟨h1, h2, h3⟩ := muO_first O j hj
    exact ⟨by simp; omega, by simpa using h2, by simp only [List.set_cons_succ, muO]; omega⟩
theorem first_none : ∀ (O : List Bool), firstT O = none → ∀ k, O.getD k false = false
  | [], _, k => by simp
  | false :: O, h, 0 => rfl
  | false :: O, h, k + 1 => by
    simp only [firstT, Option.map_eq_none_iff] at h
    simpa using first_none O h k
theorem first_take : ∀ (O : List Bool) (k : Nat), k < O.length → (∀ j, j < k → O.getD j false = false) → O.getD k false = true → firstT O = some k
  | true :: O, 0, _, _, _ => rfl
  | false :: O, 0, _, _, h => by simp at h
  | true :: O, k + 1, _, h, _ => by have := h 0 (by omega); simp at this
  | false :: O, k + 1, hk, h, h' => by
    have := first_take O k (by simpa using hk) (fun j hj => by simpa using h (j + 1) (by omega)) (by simpa using h')
    simp [firstT, this]
theorem first_no : ∀ (O : List Bool), (∀ j, j < O.length → O.getD j false = false) → firstT O = none
  | [], _ => rfl
  | true :: O, h => by have := h 0 (by simp); simp at this
  | false :: O, h => by
    have := first_no O (fun j hj => by simpa using h (j + 1) (by simp; omega))
    simp [firstT, this]
def mu (s : StM) : Nat := muF s.F + muO s.O
theorem meet_mu {s : StM} {k : Nat} {st : List Int} (hk : k < s.F.length) : mu (meetM s k st).2 ≤ mu s ∧ (meetM s k st).2.F.length = s.F.length ∧ (meetM s k st).2.O.length = s.O.length := by
  unfold meetM
  cases h : s.F.getD k none with
  | some x => exact ⟨Nat.le_refl _, rfl, rfl⟩
  | none =>
    have h1 := muF_set s.F k st hk h
    have h2 := muO_true s.O k
    refine ⟨?_, by simp, by simp⟩
    show muF (s.F.set k (some st)) + muO (s.O.set k true) ≤ muF s.F + muO s.O
    omega
theorem runV_stop {P : PrM} {f : FnM} {s : StM} (h : firstT s.O = none) : ∀ n, runV P f n s = .inl s.F
  | 0 => rfl
  | n + 1 => by unfold runV; rw [h]
/-- In memory. -/
def FCT : TypeId := 92
def factE : Elt (Bool × Sl) where
  cells := fun v => [.bool v.1, .slice v.2.a v.2.n v.2.c]
  size := 2
  pos := by decide
  len := fun _ => rfl
  one := fun r u hu => by
    simp only [List.mem_cons, List.not_mem_nil, or_false] at hu
    rcases hu with rfl | rfl <;> rfl
def bolE : Elt Bool where
  cells := fun b => [.bool b]
  size := 1
  pos := by decide
  len := fun _ => rfl
  one := fun r u hu => by
    simp only [List.mem_cons, List.not_mem_nil, or_false] at hu
    subst hu; rfl
theorem fact_at {w : World} {g : Nat} {F : List (Bool × Sl)} (h : Blk w g (factE.row F)) {k : Nat} (hk : k < F.length) : w.cell? ⟨g, k * 2, none⟩ = some (.bool F[k].1) ∧ w.cell? ⟨g, k * 2 + 1, none⟩ = some (.slice F[k].2.a F[k].2.n F[k].2.c) := by
  have hs : factE.size = 2 := rfl
  have key : ∀ r, r < 2 → w.cell? ⟨g, k * 2 + r, none⟩ = (factE.cells F[k])[r]? := fun r hr => by
    have e1 := row_at factE F k hk r (by rw [hs]; exact hr)
    rw [hs] at e1
    have l1 : k * 2 + r < (factE.row F).length := by rw [row_length, hs]; omega
    rw [← e1, List.getElem?_eq_getElem l1, ← h.2.1 _ l1]
  exact ⟨key 0 (by omega), key 1 (by omega)⟩
theorem bol_at {w : World} {g : Nat} {O : List Bool} (h : Blk w g (bolE.row O)) {k : Nat} (hk : k < O.length) : w.cell? ⟨g, k, none⟩ = some (.bool O[k]) := by
  have hs : bolE.size = 1 := rfl
  have e1 := row_at bolE O k hk 0 (by rw [hs]; omega)
  rw [hs, Nat.mul_one, Nat.add_zero] at e1
  have l1 : k < (bolE.row O).length := by rw [row_length, hs]; omega
  have := h.2.1 _ l1
  rw [this, ← List.getElem?_eq_getElem l1, e1]; rfl
def NoInt (w : World) (X : Nat) : Prop := ∀ o i, w.cell? ⟨X, o, none⟩ ≠ some (.int .i64 i)
theorem readI_no {w w' : World} {X : Nat} {v : Value} {xs : List Int} (h : ReadI w v xs) (hX : NoInt w X) (hg : w.grownBy w' (some X)) : ReadI w' v xs := by
  rcases Nat.eq_zero_or_pos xs.length with q | q
  · obtain ⟨a, cap, rfl, e1, e2, e3, _⟩ := h
    exact ⟨a, cap, rfl, e1, e2, e3, fun hp => by omega⟩
  · obtain ⟨b, o, c, rfl, _, _, h3, h4⟩ := readI_pos h q
    refine readI_kept h (fun b' hb hlt => hg.block b' hlt ?_) hg.size
    intro e
    have e1 : b = b' := by injection hb
    have e2 : b' = X := by injection e
    exact hX (o + 0) _ (by rw [← e2, ← e1]; exact h4 0 q)
theorem noInt_below {w w' : World} {X : Nat} (h : NoInt w X) (hX : X < w.heap.size) (hb : Below w.heap.size w w') : NoInt w' X := fun o i e => h o i (((bcell hb).1 X o hX).symm.trans e)
theorem noInt_grown {w w' : World} {X Y : Nat} (h : NoInt w X) (hX : X < w.heap.size) (hne : X ≠ Y) (hg : w.grownBy w' (some Y)) : NoInt w' X := fun o i e => h o i (((gb_cell hg).1 X o hX hne).symm.trans e)
theorem noInt_set {w : World} {X k : Nat} {u : Value} {vs : List Value} (h : NoInt w X) (hb : Blk w X vs) (hk : k < vs.length) (hu : ∀ i, u ≠ .int .i64 i) : NoInt (w.setCell ⟨X, k, none⟩ u) X := by
  intro o i e
  by_cases hko : o = k
  · subst hko
    rw [World.cell?_setCell_same _ _ _ (hb.2.1 o hk)] at e
    injection e with e; exact hu i e
  · rw [World.cell?_setCell_other _ _ _ _ (fun z => hko (by cases z; rfl))] at e
    exact h o i e
def FactsOk (w : World) (F : List (Bool × Sl)) (M : List (Option (List Int))) : Prop := F.length = M.length ∧ ∀ k, (h : k < F.length) → F[k].1 = (M.getD k none).isSome ∧ ReadI w F[k].2.v ((M.getD k none).getD [])
structure ChkAt (w : World) (c g o n : Nat) (F : List (Bool × Sl)) (O : List Bool) (M : List (Option (List Int))) : Prop where
  hd : Blk w c [.slice (some ⟨g, 0, none⟩) n n, .slice (some ⟨o, 0, none⟩) n n]
  fr : Blk w g (factE.row F)
  ob : Blk w o (bolE.row O)
  ng : NoInt w g
  no : NoInt w o
  e1 : c ≠ g
  e2 : c ≠ o
  e3 : g ≠ o
  lf : F.length = n
  lo : O.length = n
  ok : FactsOk w F M
  ty : tyB w g = some FCT
theorem chk_below {w w' : World} {c g o n : Nat} {F : List (Bool × Sl)} {O : List Bool} {M : List (Option (List Int))} (h : ChkAt w c g o n F O M) (hb : Below w.heap.size w w') : ChkAt w' c g o n F O M :=
  ⟨blk_below h.hd hb, blk_below h.fr hb, blk_below h.ob hb, noInt_below h.ng h.fr.1 hb, noInt_below h.no h.ob.1 hb, h.e1, h.e2, h.e3, h.lf, h.lo, ⟨h.ok.1, fun k hk => ⟨(h.ok.2 k hk).1, readI_below (h.ok.2 k hk).2 hb⟩⟩, tyB_call h.ty hb⟩
/-- One is met, with a stack. -/
theorem chk_new {w : World} {c g o n k : Nat} {F : List (Bool × Sl)} {O : List Bool} {M : List (Option (List Int))} {st : List Int} {sa : Option Addr} {sc : Nat} (h : ChkAt w c g o n F O M) (hk : k < n) (hst : ReadI w (.slice sa st.length sc) st) :
    ChkAt ((w.setCells g (k * 2) [.bool true, .slice sa st.length sc]).setCells o (k * 1) [.bool true]) c g o n (F.set k (true, ⟨sa, st.length, sc⟩)) (O.set k true) (M.set k (some st)) := by
  have hF : k < F.length := by rw [h.lf]; exact hk
  have hO : k < O.length := by rw [h.lo]; exact hk
  have g1 : w.grownBy (w.setCells g (k * 2) [.bool true, .slice sa st.length sc]) (some g) := gb_sets _ _ (gb_refl _ _)
  have g2 : (w.setCells g (k * 2) [.bool true, .slice sa st.length sc]).grownBy ((w.setCells g (k * 2) [.bool true, .slice sa st.length sc]).setCells o (k * 1) [.bool true]) (some o) := gb_sets _ _ (gb_refl _ _)
  have lg : k * 2 + 1 < (factE.row F).length := by rw [row_length]; show _ < F.length * 2; omega
  have ng1 : NoInt (w.setCells g (k * 2) [.bool true, .slice sa st.length sc]) g := by
    show NoInt ((w.setCell ⟨g, k * 2, none⟩ (.bool true)).setCell ⟨g, k * 2 + 1, none⟩ (.slice sa st.length sc)) g
    exact noInt_set (noInt_set h.ng h.fr (by omega) (fun i e => by cases e)) (blk_set h.fr _ _) (by simp; omega) (fun i e => by cases e)
  have no1 := noInt_grown h.no h.ob.1 (fun e => h.e3 e.symm) g1
  have ob1 := blk_grown h.ob g1 (fun e => h.e3 (by injection e with e; exact e.symm))
  have lo1 : k * 1 < (bolE.row O).length := by rw [row_length]; show _ < O.length * 1; omega
  have fr1 : Blk (w.setCells g (k * 2) [.bool true, .slice sa st.length sc]) g (factE.row (F.set k (true, ⟨sa, st.length, sc⟩))) := blk_elt (c := factE) h.fr hF (true, ⟨sa, st.length, sc⟩)
  have hl := h.ok.1
  refine ⟨?_, ?_, ?_, ?_, ?_, h.e1, h.e2, h.e3, by rw [List.length_set]; exact h.lf, by rw [List.length_set]; exact h.lo, ⟨by rw [List.length_set, List.length_set]; exact hl, fun j hj => ?_⟩, (by
    have z := gb_sets (b := g) [.bool true, .slice sa st.length sc] (k * 2) (gb_refl w (some g))
    have z1 : tyB (w.setCells g (k * 2) [.bool true, .slice sa st.length sc]) g = some FCT := by
      show tyB ((w.setCell ⟨g, k * 2, none⟩ (.bool true)).setCell ⟨g, k * 2 + 1, none⟩ (.slice sa st.length sc)) g = _
      rw [tyB_set, tyB_set]; exact h.ty
    exact tyB_grown z1 g2 (fun e => h.e3 (by injection e)))⟩
  · exact blk_grown (blk_grown h.hd g1 (fun e => h.e1 (by injection e))) g2 (fun e => h.e2 (by injection e))
  · exact blk_grown fr1 g2 (fun e => h.e3 (by injection e))
  · exact blk_elt (c := bolE) ob1 hO true
  · exact noInt_grown ng1 fr1.1 h.e3 g2
  · show NoInt ((w.setCells g (k * 2) [.bool true, .slice sa st.length sc]).setCell ⟨o, k * 1, none⟩ (.bool true)) o
    exact noInt_set no1 ob1 lo1 (fun i e => by cases e)
  · have R : ∀ v xs, ReadI w v xs → ReadI ((w.setCells g (k * 2) [.bool true, .slice sa st.length sc]).setCells o (k * 1) [.bool true]) v xs := fun v xs hv => readI_no (readI_no hv h.ng g1) no1 g2
    by_cases e : j = k
    · subst e
      rw [List.getElem_set_self, List.getD_eq_getElem?_getD, List.getElem?_set_self (by omega)]
      exact ⟨rfl, R _ _ hst⟩
    · have hj' : j < F.length := by simpa using hj
      have q := h.ok.2 j hj'
      rw [List.getElem_set_ne (fun z => e z.symm), List.getD_eq_getElem?_getD, List.getElem?_set_ne (fun z => e z.symm), ← List.getD_eq_getElem?_getD]
      exact ⟨q.1, R _ _ q.2⟩
set_option maxHeartbeats 1000000 in
theorem vmeet_met {w : World} {c g o n k : Nat} {F : List (Bool × Sl)} {O : List Bool} {M : List (Option (List Int))} {st x : List Int} {sa : Option Addr} {sc : Nat} (h : ChkAt w c g o n F O M) (hk : k < n) (hn : n ≤ 200) (hst : ReadI w (.slice sa st.length sc) st) (hm : M.getD k none = some x) (hx : x.length ≤ 1000) (hs : st.length ≤ 1000) : Calls Try.prog 98 #[.pointer (some ⟨c, 0, none⟩), .int .i64 k, .slice sa st.length sc] w fun e w' => e = .returned (.bool (decide (x = st))) ∧ Below w.heap.size w w' := by
  obtain ⟨c0, c1, cf⟩ := blk2 h.hd
  obtain ⟨f0, f1⟩ := fact_at h.fr (k := k) (by rw [h.lf]; exact hk)
  obtain ⟨q1, q2⟩ := h.ok.2 k (by rw [h.lf]; exact hk)
  rw [hm] at q1 q2
  rw [q1] at f0
  have HE := Lib.hid (eqI_any _ (.slice sa st.length sc) x st w q2 hst (by omega) (by omega))
  unfold Sl.v at HE
  generalize (F[k]'(by rw [h.lf]; exact hk)).2 = sl at *
  obtain ⟨la, ln, lc⟩ := sl
  simp only at f1 HE
  have k0 : (0 : Int) ≤ k := by omega
  have k1 : (k : Int) < n := by omega
  have n1 : (n : Int) ≤ 200 := by omega
  have f0 : w.cell? ⟨g, k * 2, none⟩ = some (.bool true) := f0
  obtain ⟨t, ht⟩ : ∃ t, t = decide (x = st) := ⟨_, rfl⟩
  rw [← ht] at HE ⊢
  clear h q1 q2 hst ht hm
  go_enter Try.func98, Try.ntmps98
  go_wp2_with fail
  refine HE.out.mono ?_
  rintro e w1 ⟨rfl, hb1⟩
  go_wp2_with fail
  go_ret
  exact ⟨rfl, hb1⟩
def MeetNew (w : World) (c g o n k : Nat) (O : List Bool) (M : List (Option (List Int))) (st : List Int) (e : Ending) (w' : World) : Prop := e = .returned (.bool true) ∧ (∃ F', ChkAt w' c g o n F' (O.set k true) (M.set k (some st))) ∧ GrowX w w' (fun j => j = g ∨ j = o)
set_option maxHeartbeats 1000000 in
theorem vmeet_new {w : World} {c g o n k : Nat} {F : List (Bool × Sl)} {O : List Bool} {M : List (Option (List Int))} {st : List Int} {sa : Option Addr} {sc : Nat} (h : ChkAt w c g o n F O M) (hk : k < n) (hn : n ≤ 200) (hst : ReadI w (.slice sa st.length sc) st) (hm : M.getD k none = none) : Calls Try.prog 98 #[.pointer (some ⟨c, 0, none⟩), .int .i64 k, .slice sa st.length sc] w (MeetNew w c g o n k O M st) := by
  obtain ⟨c0, c1, cf⟩ := blk2 h.hd
  have hF : k < F.length := by rw [h.lf]; exact hk
  have hO : k < O.length := by rw [h.lo]; exact hk
  obtain ⟨f0, f1⟩ := fact_at h.fr hF
  obtain ⟨q1, q2⟩ := h.ok.2 k hF
  rw [hm] at q1
  rw [q1] at f0
  have f0 : w.cell? ⟨g, k * 2, none⟩ = some (.bool false) := f0
  have o0 := bol_at h.ob hO
  have DONE : Hid (MeetNew w c g o n k O M st (.returned (.bool true)) ((w.setCells g (k * 2) [.bool true, .slice sa st.length sc]).setCells o k [.bool true]).drew) := Lib.hid (by
    have q := chk_new h hk hst
    rw [Nat.mul_one] at q
    refine ⟨rfl, ⟨_, chk_below q (b_drew (Below.refl _ _))⟩, ?_⟩
    have g0 : w.grownBy (w.setCells g (k * 2) [.bool true, .slice sa st.length sc]) (some g) := gb_sets _ _ (gb_refl _ _)
    have g1 := gb_sets (b := o) [.bool true] k (gb_refl (w.setCells g (k * 2) [.bool true, .slice sa st.length sc]) (some o))
    exact gx_drew (gx_trans (gx_gb (X := fun j => j = g) g0 (fun k e => by injection e with e; exact e.symm)) (gx_gb (X := fun j => j = o) g1 (fun k e => by injection e with e; exact e.symm)) (fun _ _ e => Or.inl e) (fun _ _ e => Or.inr e)))
  have fz := h.fr.2.2
  have oz := h.ob.2.2
  have gz := h.fr.1
  have ozz := h.ob.1
  have hgo : ¬ g = o := h.e3
  have hog : ¬ o = g := fun e => h.e3 e.symm
  have k0 : (0 : Int) ≤ k := by omega
  have k1 : (k : Int) < n := by omega
  have n1 : (n : Int) ≤ 200 := by omega
  have HS : Hid (w.drew.cell? ⟨c, 0, none⟩ = some (.slice (some ⟨g, 0, none⟩) n n) ∧ w.drew.cell? ⟨c, 1, none⟩ = some (.slice (some ⟨o, 0, none⟩) n n)) := ⟨c0, c1⟩
  generalize (F[k]).2 = sl at *
  generalize O[k] = ob at *
  obtain ⟨la, ln, lc⟩ := sl
  simp only at f1
  clear h q1 q2 hst hm
  go_enter Try.func98, Try.ntmps98
  go_upto_region 3 with fail
  refine wp_region_F (S := fun w' => w'.cell? ⟨c, 0, none⟩ = some (.slice (some ⟨g, 0, none⟩) n n) ∧ w'.cell? ⟨c, 1, none⟩ = some (.slice (some ⟨o, 0, none⟩) n n)) [13, 15] (by kernel_rfl) HS.out (fun hHeld => ?_)
  (refine wpAnyF_takeP (i := 0) (v := ?_) rfl (by kernel_rfl) (by kernel_rfl) (by kernel_rfl) (fun _ _ _ h => h) (Or.inl ⟨by rfl, ?_⟩) ?_; rotate_left; (focus (intro w hSw; (try dsimp only at hSw); go_simp; try (with_reducible rfl))); (try simp only [Act.put, List.getElem_toArray, List.getElem_cons_succ, List.getElem_cons_zero, List.setIfInBounds_toArray, List.set_cons_zero, List.set_cons_succ]))
  (refine wpAnyF_takeP (i := 1) (v := ?_) rfl (by kernel_rfl) (by kernel_rfl) (by kernel_rfl) (fun _ _ _ h => h) (Or.inl ⟨by rfl, ?_⟩) ?_; rotate_left; (focus (intro w hSw; (try dsimp only at hSw); go_simp; try (with_reducible rfl))); (try simp only [Act.put, List.getElem_toArray, List.getElem_cons_succ, List.getElem_cons_zero, List.setIfInBounds_toArray, List.set_cons_zero, List.set_cons_succ]))
  (refine wpAnyF_takeP (i := 2) (v := ?_) rfl (by kernel_rfl) (by kernel_rfl) (by kernel_rfl) (fun _ _ _ h => h) (Or.inl ⟨by rfl, ?_⟩) ?_; rotate_left; (focus (intro w hSw; (try dsimp only at hSw); go_simp; try (with_reducible rfl))); (try simp only [Act.put, List.getElem_toArray, List.getElem_cons_succ, List.getElem_cons_zero, List.setIfInBounds_toArray, List.set_cons_zero, List.set_cons_succ]))
  (refine wpAnyF_take (n := 40) (i := 3) (v := ?_) rfl (by kernel_rfl) (by kernel_rfl) (by kernel_rfl) (by kernel_rfl) (by kernel_rfl) (fun _ _ _ h => h) (Or.inl ⟨by rfl, ?_⟩) hHeld ?_; rotate_left; (focus (intro w hSw; (try dsimp only at hSw); go_simp; try (with_reducible rfl))); (try simp only [Act.put, List.getElem_toArray, List.getElem_cons_succ, List.getElem_cons_zero, List.setIfInBounds_toArray, List.set_cons_zero, List.set_cons_succ]))
  (refine wpAnyF_takeP (i := 4) (v := ?_) rfl (by kernel_rfl) (by kernel_rfl) (by kernel_rfl) (fun _ _ _ h => h) (Or.inl ⟨by rfl, ?_⟩) ?_; rotate_left; (focus (intro w hSw; (try dsimp only at hSw); go_simp; try (with_reducible rfl))); (try simp only [Act.put, List.getElem_toArray, List.getElem_cons_succ, List.getElem_cons_zero, List.setIfInBounds_toArray, List.set_cons_zero, List.set_cons_succ]))
  (refine wpAnyF_takeP (i := 5) (v := ?_) rfl (by kernel_rfl) (by kernel_rfl) (by kernel_rfl) (fun _ _ _ h => h) (Or.inl ⟨by rfl, ?_⟩) ?_; rotate_left; (focus (intro w hSw; (try dsimp only at hSw); go_simp; try (with_reducible rfl))); (try simp only [Act.put, List.getElem_toArray, List.getElem_cons_succ, List.getElem_cons_zero, List.setIfInBounds_toArray, List.set_cons_zero, List.set_cons_succ]))
  (refine wpAnyF_takeP (i := 6) (v := ?_) rfl (by kernel_rfl) (by kernel_rfl) (by kernel_rfl) (fun _ _ _ h => h) (Or.inl ⟨by rfl, ?_⟩) ?_; rotate_left; (focus (intro w hSw; (try dsimp only at hSw); go_simp; try (with_reducible rfl))); (try simp only [Act.put, List.getElem_toArray, List.getElem_cons_succ, List.getElem_cons_zero, List.setIfInBounds_toArray, List.set_cons_zero, List.set_cons_succ]))
  (refine wpAnyF_takeP (i := 7) (v := ?_) rfl (by kernel_rfl) (by kernel_rfl) (by kernel_rfl) (fun _ _ _ h => h) (Or.inl ⟨by rfl, ?_⟩) ?_; rotate_left; (focus (intro w hSw; (try dsimp only at hSw); go_simp; try (with_reducible rfl))); (try simp only [Act.put, List.getElem_toArray, List.getElem_cons_succ, List.getElem_cons_zero, List.setIfInBounds_toArray, List.set_cons_zero, List.set_cons_succ]))
  (refine wpAnyF_take (n := 40) (i := 8) (v := ?_) rfl (by kernel_rfl) (by kernel_rfl) (by kernel_rfl) (by kernel_rfl) (by kernel_rfl) (fun _ _ _ h => h) (Or.inl ⟨by rfl, ?_⟩) hHeld ?_; rotate_left; (focus (intro w hSw; (try dsimp only at hSw); go_simp; try (with_reducible rfl))); (try simp only [Act.put, List.getElem_toArray, List.getElem_cons_succ, List.getElem_cons_zero, List.setIfInBounds_toArray, List.set_cons_zero, List.set_cons_succ]))
  (refine wpAnyF_takeP (i := 9) (v := ?_) rfl (by kernel_rfl) (by kernel_rfl) (by kernel_rfl) (fun _ _ _ h => h) (Or.inl ⟨by rfl, ?_⟩) ?_; rotate_left; (focus (intro w hSw; (try dsimp only at hSw); go_simp; try (with_reducible rfl))); (try simp only [Act.put, List.getElem_toArray, List.getElem_cons_succ, List.getElem_cons_zero, List.setIfInBounds_toArray, List.set_cons_zero, List.set_cons_succ]))
  (refine wpAnyF_takeP (i := 10) (v := ?_) rfl (by kernel_rfl) (by kernel_rfl) (by kernel_rfl) (fun _ _ _ h => h) (Or.inl ⟨by rfl, ?_⟩) ?_; rotate_left; (focus (intro w hSw; (try dsimp only at hSw); go_simp; try (with_reducible rfl))); (try simp only [Act.put, List.getElem_toArray, List.getElem_cons_succ, List.getElem_cons_zero, List.setIfInBounds_toArray, List.set_cons_zero, List.set_cons_succ]))
  (refine wpAnyF_takeP (i := 11) (v := ?_) rfl (by kernel_rfl) (by kernel_rfl) (by kernel_rfl) (fun _ _ _ h => h) (Or.inl ⟨by rfl, ?_⟩) ?_; rotate_left; (focus (intro w hSw; (try dsimp only at hSw); go_simp; try (with_reducible rfl))); (try simp only [Act.put, List.getElem_toArray, List.getElem_cons_succ, List.getElem_cons_zero, List.setIfInBounds_toArray, List.set_cons_zero, List.set_cons_succ]))
  (refine wpAnyF_take (n := 40) (i := 12) (v := ?_) rfl (by kernel_rfl) (by kernel_rfl) (by kernel_rfl) (by kernel_rfl) (by kernel_rfl) (fun _ _ _ h => h) (Or.inl ⟨by rfl, ?_⟩) hHeld ?_; rotate_left; (focus (intro w hSw; (try dsimp only at hSw); go_simp; try (with_reducible rfl))); (try simp only [Act.put, List.getElem_toArray, List.getElem_cons_succ, List.getElem_cons_zero, List.setIfInBounds_toArray, List.set_cons_zero, List.set_cons_succ]))
  refine wpAnyF_ready (rs := [13]) (by kernel_rfl) (by simp) (AllReadyF.free rfl (by decide) (fun K hK => ?_) AllReadyF.nil)
  go_simp
  refine hK.out _ _ (trivial) (fun hHeld => ?_)
  clear hK K
  (try simp only [Act.put, List.getElem_toArray, List.getElem_cons_succ, List.getElem_cons_zero, List.setIfInBounds_toArray, List.set_cons_zero, List.set_cons_succ])
  (refine wpAnyF_takeP (i := 14) (v := ?_) rfl (by kernel_rfl) (by kernel_rfl) (by kernel_rfl) (fun _ _ _ h => h) (Or.inl ⟨by rfl, ?_⟩) ?_; rotate_left; (focus (intro w hSw; (try dsimp only at hSw); go_simp; try (with_reducible rfl))); (try simp only [Act.put, List.getElem_toArray, List.getElem_cons_succ, List.getElem_cons_zero, List.setIfInBounds_toArray, List.set_cons_zero, List.set_cons_succ]))
  refine wpAnyF_ready (rs := [15]) (by kernel_rfl) (by simp) (AllReadyF.free rfl (by decide) (fun K hK => ?_) AllReadyF.nil)
  go_simp
  refine hK.out _ _ (trivial) (fun hHeld => ?_)
  clear hK K
  (try simp only [Act.put, List.getElem_toArray, List.getElem_cons_succ, List.getElem_cons_zero, List.setIfInBounds_toArray, List.set_cons_zero, List.set_cons_succ])
  refine wpAnyF_done (by kernel_rfl) ?_
  go_wp2_with fail
  go_ret
  exact DONE.out
def idxB (O : List Bool) : Int := match firstT O with | some k => (k : Int) | none => -1
set_option maxHeartbeats 800000 in
theorem idxb_any {w : World} {g n : Nat} {O : List Bool} (h : Blk w g (bolE.row O)) (hl : O.length = n) (hn : n ≤ 200) : Calls Try.prog 99 #[.slice (some ⟨g, 0, none⟩) n n, .bool true] w fun e w' => e = .returned (.int .i64 (idxB O)) ∧ w = w' := by
  have H := Lib.hid h
  have HLN := Lib.hid hl
  have n1 : (n : Int) ≤ 200 := by omega
  clear h hl
  go_enter Try.func99, Try.ntmps99
  go_wp2_with fail
  go_loopw [8] (fun i wr => ∃ k : Nat, k ≤ n ∧ i = .int .i64 k ∧ w = wr ∧ Hid (∀ j, j < k → O.getD j false = false)) (fun i _ => n - (intOf i).toNat)
  case atStart => exact ⟨0, Nat.zero_le _, rfl, rfl, fun j hj => by omega⟩
  case round =>
    obtain ⟨k, hk, rfl, rfl, hp⟩ := hrel
    have k0 : (0 : Int) ≤ k := by omega
    by_cases hlt : k < n
    · have k1 : (k : Int) < n := by omega
      have hc := bol_at H.out (k := k) (by rw [HLN.out]; exact hlt)
      have HG : Hid (O.getD k false = O[k]'(by rw [HLN.out]; exact hlt)) := Lib.hid (by rw [List.getD_eq_getElem?_getD, List.getElem?_eq_getElem (by rw [HLN.out]; exact hlt)]; rfl)
      generalize O[k]'(by rw [HLN.out]; exact hlt) = t at *
      cases t
      · go_wp2_with fail
        go_roundw
        case rel => exact ⟨k + 1, by omega, by first | rfl | trivial | go_num, by first | trivial | rfl, fun j hj => by
          rcases Nat.lt_or_ge j k with q | q
          · exact hp.out j q
          · have e : j = k := by omega
            rw [e]; exact HG.out⟩
        case measure => simp [intOf]; omega
      · have HI : Hid (idxB O = k) := Lib.hid (by unfold idxB; rw [first_take O k (by rw [HLN.out]; exact hlt) hp.out HG.out])
        go_wp2_with fail
        go_ret
        exact ⟨by rw [HI.out]; rfl, rfl⟩
    · have HI : Hid (idxB O = -1) := Lib.hid (by unfold idxB; rw [first_no O (fun j hj => hp.out j (by rw [HLN.out] at hj; omega))])
      have k1 : ¬ ((k : Int) < n) := by omega
      go_wp2_with fail
      go_ret
      exact ⟨by rw [HI.out]; rfl, rfl⟩
end Go.Proofs.Ytdmidnmciaediaa
