/- Layer 26: going through a function: the plain model; what is in memory; the contracts of meet, and of slices.Index over truths. Conditions: those stated. Layer 26: the document's Deal, part 1. Conditions: those stated. Layer 26: the document's Deal, part 2. Conditions: those stated. Layer 26: the document's Deal, part 3. Conditions: those stated. Layer 26: the document's Deal, whatever the instruction. Conditions: those stated. -/
import Derived.Test.YtdmidnmciaediaaWVer1
import Derived.Test.YtdmidnmciaediaaWHeldE
import Derived.Test.YtdmidnmciaediaaWRow
namespace Go.Proofs.Ytdmidnmciaediaa
section
open Go.RowKit
set_option linter.unusedVariables false
set_option linter.unusedSimpArgs false
attribute [local go_sem] over_cell over_frozen
structure StM where
  F : List (Option (List Int))
  O : List Bool
def meetM (s : StM) (k : Nat) (st : List Int) : Bool × StM := match s.F.getD k none with
  | some x => (decide (x = st), s)
  | none => (true, ⟨s.F.set k (some st), s.O.set k true⟩)
def meets (s : StM) (st : List Int) : List Int → Sum StM Int
  | [] => .inl s
  | j :: on => if (meetM s j.toNat st).1 = true then meets (meetM s j.toNat st).2 st on else .inr j
def firstT : List Bool → Option Nat
  | [] => none
  | true :: _ => some 0
  | false :: O => (firstT O).map (· + 1)
def runV (P : PrM) (f : FnM) : Nat → StM → Sum (List (Option (List Int))) (Int × Int)
  | 0, s => .inl s.F
  | n + 1, s => match firstT s.O with
    | none => .inl s.F
    | some k =>
      if (effect P f k ((s.F.getD k none).getD [])).c ≠ 0 then .inr ((k : Int), (effect P f k ((s.F.getD k none).getD [])).c)
      else match meets ⟨s.F, s.O.set k false⟩ (effect P f k ((s.F.getD k none).getD [])).t (effect P f k ((s.F.getD k none).getD [])).p with
        | .inr j => .inr (j, 4)
        | .inl s' => runV P f n s'
def start (n : Nat) : StM := (meetM ⟨List.replicate n none, List.replicate n false⟩ 0 []).2
def funM (P : PrM) (f : FnM) : Sum (List (Option (List Int))) (Int × Int) := runV P f (2 * f.code.length) (start f.code.length)
/-- How much is left to do. -/
def muF : List (Option (List Int)) → Nat
  | [] => 0
  | none :: F => 2 + muF F
  | some _ :: F => muF F
def muO : List Bool → Nat
  | [] => 0
  | true :: O => 1 + muO O
  | false :: O => muO O
theorem muF_set : ∀ (F : List (Option (List Int))) (k : Nat) (st : List Int), k < F.length → F.getD k none = none → muF (F.set k (some st)) + 2 = muF F
  | none :: F, 0, st, _, _ => by simp [muF]; omega
  | some _ :: F, 0, st, _, h => by simp at h
  | none :: F, k + 1, st, hk, h => by
    have := muF_set F k st (by simpa using hk) (by simpa using h)
    simp only [List.set_cons_succ, muF]; omega
  | some _ :: F, k + 1, st, hk, h => by
    have := muF_set F k st (by simpa using hk) (by simpa using h)
    simp only [List.set_cons_succ, muF]; omega
theorem muO_true : ∀ (O : List Bool) (k : Nat), muO (O.set k true) ≤ muO O + 1
  | [], _ => by simp [muO]
  | true :: O, 0 => by simp [muO]
  | false :: O, 0 => by simp [muO]; omega
  | true :: O, k + 1 => by have := muO_true O k; simp only [List.set_cons_succ, muO]; omega
  | false :: O, k + 1 => by have := muO_true O k; simp only [List.set_cons_succ, muO]; omega
theorem muO_first : ∀ (O : List Bool) (k : Nat), firstT O = some k → k < O.length ∧ O.getD k false = true ∧ muO (O.set k false) + 1 = muO O
  | true :: O, k, h => by
    have : k = 0 := by simp [firstT] at h; exact h.symm
    subst this
    exact ⟨by simp, rfl, by simp [muO]; omega⟩
  | false :: O, k, h => by
    simp only [firstT, Option.map_eq_some_iff] at h
    obtain ⟨j, hj, rfl⟩ := h
    obtain ⟨h1, h2, h3⟩ := muO_first O j hj
    exact ⟨by simp; omega, by simpa using h2, by simp only [List.set_cons_succ, muO]; omega⟩
theorem first_none : ∀ (O : List Bool), firstT O = none → ∀ k, O.getD k false = false
  | [], _, k => by simp
  | false :: O, h, 0 => rfl
  | false :: O, h, k + 1 => by
    simp only [firstT, Option.map_eq_none_iff] at h
    simpa using first_none O h k
theorem first_take : ∀ (O : List Bool) (k : Nat), k < O.length → (∀ j, j < k → O.getD j false = false) → O.getD k false = true → firstT O = some k
  | true :: O, 0, _, _, _ => rfl
  | false :: O, 0, _, _, h => by simp at h
  | true :: O, k + 1, _, h, _ => by have := h 0 (by omega); simp at this
  | false :: O, k + 1, hk, h, h' => by
    have := first_take O k (by simpa using hk) (fun j hj => by simpa using h (j + 1) (by omega)) (by simpa using h')
    simp [firstT, this]
theorem first_no : ∀ (O : List Bool), (∀ j, j < O.length → O.getD j false = false) → firstT O = none
  | [], _ => rfl
  | true :: O, h => by have := h 0 (by simp); simp at this
  | false :: O, h => by
    have := first_no O (fun j hj => by simpa using h (j + 1) (by simp; omega))
    simp [firstT, this]
def mu (s : StM) : Nat := muF s.F + muO s.O
theorem meet_mu {s : StM} {k : Nat} {st : List Int} (hk : k < s.F.length) : mu (meetM s k st).2 ≤ mu s ∧ (meetM s k st).2.F.length = s.F.length ∧ (meetM s k st).2.O.length = s.O.length := by
  unfold meetM
  cases h : s.F.getD k none with
  | some x => exact ⟨Nat.le_refl _, rfl, rfl⟩
  | none =>
    have h1 := muF_set s.F k st hk h
    have h2 := muO_true s.O k
    refine ⟨?_, by simp, by simp⟩
    show muF (s.F.set k (some st)) + muO (s.O.set k true) ≤ muF s.F + muO s.O
    omega
theorem runV_stop {P : PrM} {f : FnM} {s : StM} (h : firstT s.O = none) : ∀ n, runV P f n s = .inl s.F
  | 0 => rfl
  | n + 1 => by unfold runV; rw [h]
/-- In memory. -/
def FCT : TypeId := 92
def factE : Elt (Bool × Sl) where
  cells := fun v => [.bool v.1, .slice v.2.a v.2.n v.2.c]
  size := 2
  pos := by decide
  len := fun _ => rfl
  one := fun r u hu => by
    simp only [List.mem_cons, List.not_mem_nil, or_false] at hu
    rcases hu with rfl | rfl <;> rfl
def bolE : Elt Bool where
  cells := fun b => [.bool b]
  size := 1
  pos := by decide
  len := fun _ => rfl
  one := fun r u hu => by
    simp only [List.mem_cons, List.not_mem_nil, or_false] at hu
    subst hu; rfl
theorem fact_at {w : World} {g : Nat} {F : List (Bool × Sl)} (h : Blk w g (factE.row F)) {k : Nat} (hk : k < F.length) : w.cell? ⟨g, k * 2, none⟩ = some (.bool F[k].1) ∧ w.cell? ⟨g, k * 2 + 1, none⟩ = some (.slice F[k].2.a F[k].2.n F[k].2.c) := by
  have hs : factE.size = 2 := rfl
  have key : ∀ r, r < 2 → w.cell? ⟨g, k * 2 + r, none⟩ = (factE.cells F[k])[r]? := fun r hr => by
    have e1 := row_at factE F k hk r (by rw [hs]; exact hr)
    rw [hs] at e1
    have l1 : k * 2 + r < (factE.row F).length := by rw [row_length, hs]; omega
    rw [← e1, List.getElem?_eq_getElem l1, ← h.2.1 _ l1]
  exact ⟨key 0 (by omega), key 1 (by omega)⟩
theorem bol_at {w : World} {g : Nat} {O : List Bool} (h : Blk w g (bolE.row O)) {k : Nat} (hk : k < O.length) : w.cell? ⟨g, k, none⟩ = some (.bool O[k]) := by
  have hs : bolE.size = 1 := rfl
  have e1 := row_at bolE O k hk 0 (by rw [hs]; omega)
  rw [hs, Nat.mul_one, Nat.add_zero] at e1
  have l1 : k < (bolE.row O).length := by rw [row_length, hs]; omega
  have := h.2.1 _ l1
  rw [this, ← List.getElem?_eq_getElem l1, e1]; rfl
def NoInt (w : World) (X : Nat) : Prop := ∀ o i, w.cell? ⟨X, o, none⟩ ≠ some (.int .i64 i)
theorem readI_no {w w' : World} {X : Nat} {v : Value} {xs : List Int} (h : ReadI w v xs) (hX : NoInt w X) (hg : w.grownBy w' (some X)) : ReadI w' v xs := by
  rcases Nat.eq_zero_or_pos xs.length with q | q
  · obtain ⟨a, cap, rfl, e1, e2, e3, _⟩ := h
    exact ⟨a, cap, rfl, e1, e2, e3, fun hp => by omega⟩
  · obtain ⟨b, o, c, rfl, _, _, h3, h4⟩ := readI_pos h q
    refine readI_kept h (fun b' hb hlt => hg.block b' hlt ?_) hg.size
    intro e
    have e1 : b = b' := by injection hb
    have e2 : b' = X := by injection e
    exact hX (o + 0) _ (by rw [← e2, ← e1]; exact h4 0 q)
theorem noInt_below {w w' : World} {X : Nat} (h : NoInt w X) (hX : X < w.heap.size) (hb : Below w.heap.size w w') : NoInt w' X := fun o i e => h o i (((bcell hb).1 X o hX).symm.trans e)
theorem noInt_grown {w w' : World} {X Y : Nat} (h : NoInt w X) (hX : X < w.heap.size) (hne : X ≠ Y) (hg : w.grownBy w' (some Y)) : NoInt w' X := fun o i e => h o i (((gb_cell hg).1 X o hX hne).symm.trans e)
theorem noInt_set {w : World} {X k : Nat} {u : Value} {vs : List Value} (h : NoInt w X) (hb : Blk w X vs) (hk : k < vs.length) (hu : ∀ i, u ≠ .int .i64 i) : NoInt (w.setCell ⟨X, k, none⟩ u) X := by
  intro o i e
  by_cases hko : o = k
  · subst hko
    rw [World.cell?_setCell_same _ _ _ (hb.2.1 o hk)] at e
    injection e with e; exact hu i e
  · rw [World.cell?_setCell_other _ _ _ _ (fun z => hko (by cases z; rfl))] at e
    exact h o i e
def FactsOk (w : World) (F : List (Bool × Sl)) (M : List (Option (List Int))) : Prop := F.length = M.length ∧ ∀ k, (h : k < F.length) → F[k].1 = (M.getD k none).isSome ∧ ReadI w F[k].2.v ((M.getD k none).getD [])
structure ChkAt (w : World) (c g o n : Nat) (F : List (Bool × Sl)) (O : List Bool) (M : List (Option (List Int))) : Prop where
  hd : Blk w c [.slice (some ⟨g, 0, none⟩) n n, .slice (some ⟨o, 0, none⟩) n n]
  fr : Blk w g (factE.row F)
  ob : Blk w o (bolE.row O)
  ng : NoInt w g
  no : NoInt w o
  e1 : c ≠ g
  e2 : c ≠ o
  e3 : g ≠ o
  lf : F.length = n
  lo : O.length = n
  ok : FactsOk w F M
  ty : tyB w g = some FCT
end
section
open Go.RowKit
set_option linter.unusedVariables false
set_option linter.unusedSimpArgs false
attribute [local go_sem] over_cell over_frozen
set_option maxRecDepth 100000 in
set_option maxHeartbeats 2000000 in
theorem rdeal4 (p : PrV) (P : PrM) (v : FnV) (f : FnM) (x a b : Int) (sa : Option Addr) (sc : Nat) (st : List Int) (w : World) (h : ReadP w p P) (hs : SmallP P) (hf : DeepF w v f) (h1 : f.ps.length ≤ 10) (h2 : f.ls.length ≤ 10) (hst : ReadI w (.slice sa st.length sc) st) (hl : st.length ≤ 100) (hk : ∀ y ∈ (f.ps ++ f.ls), 0 ≤ y) : Calls Try.prog 81 #[aggP p, aggF v, .agg #[.int .i64 4, .int .u64 x, .int .i64 a, .int .i64 b], .slice sa st.length sc] w (RetD w (ifNamed (inL (f.ps ++ f.ls) a) ⟨[], [atL (f.ps ++ f.ls) a], 0⟩)) := by
  obtain ⟨z, hz⟩ : ∃ z, z = kindL (f.ps ++ f.ls) a := ⟨_, rfl⟩
  have HZ : Hid ((inL (f.ps ++ f.ls) a = true ∧ z = atL (f.ps ++ f.ls) a ∧ 0 ≤ z) ∨ (inL (f.ps ++ f.ls) a = false ∧ z = -1)) := Lib.hid (by
    unfold kindL at hz
    cases q : inL (f.ps ++ f.ls) a
    · rw [q] at hz; exact Or.inr ⟨rfl, hz⟩
    · rw [q] at hz
      refine Or.inl ⟨rfl, hz, ?_⟩
      rw [hz]
      unfold inL at q
      rw [Bool.and_eq_true, decide_eq_true_iff, decide_eq_true_iff] at q
      unfold atL
      rw [if_pos rfl, List.getD_eq_getElem?_getD, List.getElem?_eq_getElem (by omega)]
      exact hk _ (List.getElem_mem _))
  have HZE := Lib.hid hz
  clear hz hk
  obtain ⟨u, ⟨ga, gn, gc⟩, m, ⟨fa, fn, fc⟩⟩ := p
  obtain ⟨⟨pa, pn, pc⟩, ⟨la, ln, lc⟩, r, ⟨ca, cn, cc⟩⟩ := v
  have HR := Lib.hid h; have HF := Lib.hid hf; have HST := Lib.hid hst; have HS := Lib.hid hs
  have HL1 := Lib.hid h1; have HL2 := Lib.hid h2
  obtain ⟨hq0, hsc, hsc2⟩ := int_len (s := ⟨sa, st.length, sc⟩) hst
  clear hq0
  simp only at hsc hsc2
  clear h hf hst hs h1 h2
  unfold aggP aggF Sl.v
  simp only
  go_enter Try.func81, Try.ntmps81
  go_upto_region 1 with fail
  refine wp_named ?_
  intro W hW
  obtain ⟨q1, q2, q3, q4⟩ := boxes3 w #[.bool u, .slice ga gn gc, .int .i64 m, .slice fa fn fc] #[.slice pa pn pc, .slice la ln lc, .int .i64 r, .slice ca cn cc] #[.int .i64 4, .int .u64 x, .int .i64 a, .int .i64 b] 25 35 98
  rw [← hW] at q1 q2 q3 q4
  have HBW := Lib.hid q4
  have HK : Hid (∀ w', Below W.heap.size W w' → (w'.cell? ⟨w.heap.size, 0, none⟩ = some (.bool u) ∧ w'.cell? ⟨w.heap.size, 1, none⟩ = some (.slice ga gn gc) ∧ w'.cell? ⟨w.heap.size, 2, none⟩ = some (.int .i64 m) ∧ w'.cell? ⟨w.heap.size, 3, none⟩ = some (.slice fa fn fc)) ∧ (w'.cell? ⟨w.heap.size + 1, 0, none⟩ = some (.slice pa pn pc) ∧ w'.cell? ⟨w.heap.size + 1, 1, none⟩ = some (.slice la ln lc) ∧ w'.cell? ⟨w.heap.size + 1, 2, none⟩ = some (.int .i64 r) ∧ w'.cell? ⟨w.heap.size + 1, 3, none⟩ = some (.slice ca cn cc)) ∧ (w'.cell? ⟨w.heap.size + 2, 0, none⟩ = some (.int .i64 4) ∧ w'.cell? ⟨w.heap.size + 2, 1, none⟩ = some (.int .u64 x) ∧ w'.cell? ⟨w.heap.size + 2, 2, none⟩ = some (.int .i64 a) ∧ w'.cell? ⟨w.heap.size + 2, 3, none⟩ = some (.int .i64 b) ∧ w.heap.size + 1 + 1 < w'.heap.size ∧ w.heap.size + 1 < w'.heap.size ∧ w.heap.size < w'.heap.size)) := Lib.hid (fun w' hb => by
    obtain ⟨y0, y1, y2, y3, _⟩ := blk4 (blk_below q1 hb)
    obtain ⟨z0, z1, z2, z3, _⟩ := blk4 (blk_below q2 hb)
    obtain ⟨x0, x1, x2, x3, _⟩ := blk4 (blk_below q3 hb)
    have hs1 := (blk_below q1 hb).1; have hs2 := (blk_below q2 hb).1; have hs3 := (blk_below q3 hb).1
    exact ⟨⟨y0, y1, y2, y3⟩, ⟨z0, z1, z2, z3⟩, x0, x1, x2, x3, hs3, hs2, hs1⟩)
  clear hW q1 q2 q3 q4
  obtain ⟨⟨y0, y1, y2, y3⟩, ⟨z0, z1, z2, z3⟩, x0, x1, x2, x3, s3, s2, s1⟩ := HK.out W (Below.refl _ _)
  go_wp2_with fail
  refine (rtable_any 4 (by decide) _).mono ?_
  rintro e w1 ⟨rfl, hb1⟩
  have HB1 := Lib.hid hb1
  clear y0 y1 y2 y3 z0 z1 z2 z3 x0 x1 x2 x3 s1 s2 s3 hb1
  obtain ⟨⟨y0, y1, y2, y3⟩, ⟨z0, z1, z2, z3⟩, x0, x1, x2, x3, s3, s2, s1⟩ := HK.out w1 HB1.out
  go_wp2_with fail
  refine (rlocal_any ⟨⟨pa, pn, pc⟩, ⟨la, ln, lc⟩, r, ⟨ca, cn, cc⟩⟩ f a _ (deepF_below HF.out (b_call HBW.out HB1.out)) HL1.out HL2.out).mono ?_
  rintro e w2 ⟨rfl, hb2⟩
  have HB2 := Lib.hid (b_call HB1.out hb2)
  clear hb2
  clear y0 y1 y2 y3 z0 z1 z2 z3 x0 x1 x2 x3 s1 s2 s3
  obtain ⟨⟨y0, y1, y2, y3⟩, ⟨z0, z1, z2, z3⟩, x0, x1, x2, x3, s3, s2, s1⟩ := HK.out w2 HB2.out
  rw [← HZE.out]
  rcases HZ.out with ⟨q1, q2, q3⟩ | ⟨q1, q2⟩
  · have Q1 := Lib.hid q1; have Q2 := Lib.hid q2
    clear q1 q2
    go_wp2_with fail
    go_ret3
    have D : Hid (ifNamed (inL (f.ps ++ f.ls) a) ⟨[], [atL (f.ps ++ f.ls) a], 0⟩ = ⟨[], [z], 0⟩) := Lib.hid (by rw [Q1.out, Q2.out]; rfl)
    show RetD w _ _ _
    rw [D.out]
    exact ⟨none, 0, _, _, rfl, readI_nil _, readI_lit [z] (by simp) (by simp), b_call HBW.out (b_alloc HB2.out _)⟩
  · have Q1 := Lib.hid q1
    clear q1
    subst q2
    go_wp2_with fail
    go_ret3
    have D : Hid (ifNamed (inL (f.ps ++ f.ls) a) ⟨[], [atL (f.ps ++ f.ls) a], 0⟩ = bad 5) := Lib.hid (by rw [Q1.out]; rfl)
    show RetD w _ _ _
    rw [D.out]
    exact ⟨none, 0, none, 0, rfl, readI_nil _, readI_nil _, b_call HBW.out HB2.out⟩
set_option maxRecDepth 100000 in
set_option maxHeartbeats 2000000 in
theorem rdeal5 (p : PrV) (P : PrM) (v : FnV) (f : FnM) (x a b : Int) (sa : Option Addr) (sc : Nat) (st : List Int) (w : World) (h : ReadP w p P) (hs : SmallP P) (hf : DeepF w v f) (h1 : f.ps.length ≤ 10) (h2 : f.ls.length ≤ 10) (hst : ReadI w (.slice sa st.length sc) st) (hl : st.length ≤ 100) (hk : ∀ y ∈ (f.ps ++ f.ls), 0 ≤ y) : Calls Try.prog 81 #[aggP p, aggF v, .agg #[.int .i64 5, .int .u64 x, .int .i64 a, .int .i64 b], .slice sa st.length sc] w (RetD w (ifNamed (inL (f.ps ++ f.ls) a) ⟨[atL (f.ps ++ f.ls) a], [], 0⟩)) := by
  obtain ⟨z, hz⟩ : ∃ z, z = kindL (f.ps ++ f.ls) a := ⟨_, rfl⟩
  have HZ : Hid ((inL (f.ps ++ f.ls) a = true ∧ z = atL (f.ps ++ f.ls) a ∧ 0 ≤ z) ∨ (inL (f.ps ++ f.ls) a = false ∧ z = -1)) := Lib.hid (by
    unfold kindL at hz
    cases q : inL (f.ps ++ f.ls) a
    · rw [q] at hz; exact Or.inr ⟨rfl, hz⟩
    · rw [q] at hz
      refine Or.inl ⟨rfl, hz, ?_⟩
      rw [hz]
      unfold inL at q
      rw [Bool.and_eq_true, decide_eq_true_iff, decide_eq_true_iff] at q
      unfold atL
      rw [if_pos rfl, List.getD_eq_getElem?_getD, List.getElem?_eq_getElem (by omega)]
      exact hk _ (List.getElem_mem _))
  have HZE := Lib.hid hz
  clear hz hk
  obtain ⟨u, ⟨ga, gn, gc⟩, m, ⟨fa, fn, fc⟩⟩ := p
  obtain ⟨⟨pa, pn, pc⟩, ⟨la, ln, lc⟩, r, ⟨ca, cn, cc⟩⟩ := v
  have HR := Lib.hid h; have HF := Lib.hid hf; have HST := Lib.hid hst; have HS := Lib.hid hs
  have HL1 := Lib.hid h1; have HL2 := Lib.hid h2
  obtain ⟨hq0, hsc, hsc2⟩ := int_len (s := ⟨sa, st.length, sc⟩) hst
  clear hq0
  simp only at hsc hsc2
  clear h hf hst hs h1 h2
  unfold aggP aggF Sl.v
  simp only
  go_enter Try.func81, Try.ntmps81
  go_upto_region 1 with fail
  refine wp_named ?_
  intro W hW
  obtain ⟨q1, q2, q3, q4⟩ := boxes3 w #[.bool u, .slice ga gn gc, .int .i64 m, .slice fa fn fc] #[.slice pa pn pc, .slice la ln lc, .int .i64 r, .slice ca cn cc] #[.int .i64 5, .int .u64 x, .int .i64 a, .int .i64 b] 25 35 98
  rw [← hW] at q1 q2 q3 q4
  have HBW := Lib.hid q4
  have HK : Hid (∀ w', Below W.heap.size W w' → (w'.cell? ⟨w.heap.size, 0, none⟩ = some (.bool u) ∧ w'.cell? ⟨w.heap.size, 1, none⟩ = some (.slice ga gn gc) ∧ w'.cell? ⟨w.heap.size, 2, none⟩ = some (.int .i64 m) ∧ w'.cell? ⟨w.heap.size, 3, none⟩ = some (.slice fa fn fc)) ∧ (w'.cell? ⟨w.heap.size + 1, 0, none⟩ = some (.slice pa pn pc) ∧ w'.cell? ⟨w.heap.size + 1, 1, none⟩ = some (.slice la ln lc) ∧ w'.cell? ⟨w.heap.size + 1, 2, none⟩ = some (.int .i64 r) ∧ w'.cell? ⟨w.heap.size + 1, 3, none⟩ = some (.slice ca cn cc)) ∧ (w'.cell? ⟨w.heap.size + 2, 0, none⟩ = some (.int .i64 5) ∧ w'.cell? ⟨w.heap.size + 2, 1, none⟩ = some (.int .u64 x) ∧ w'.cell? ⟨w.heap.size + 2, 2, none⟩ = some (.int .i64 a) ∧ w'.cell? ⟨w.heap.size + 2, 3, none⟩ = some (.int .i64 b) ∧ w.heap.size + 1 + 1 < w'.heap.size ∧ w.heap.size + 1 < w'.heap.size ∧ w.heap.size < w'.heap.size)) := Lib.hid (fun w' hb => by
    obtain ⟨y0, y1, y2, y3, _⟩ := blk4 (blk_below q1 hb)
    obtain ⟨z0, z1, z2, z3, _⟩ := blk4 (blk_below q2 hb)
    obtain ⟨x0, x1, x2, x3, _⟩ := blk4 (blk_below q3 hb)
    have hs1 := (blk_below q1 hb).1; have hs2 := (blk_below q2 hb).1; have hs3 := (blk_below q3 hb).1
    exact ⟨⟨y0, y1, y2, y3⟩, ⟨z0, z1, z2, z3⟩, x0, x1, x2, x3, hs3, hs2, hs1⟩)
  clear hW q1 q2 q3 q4
  obtain ⟨⟨y0, y1, y2, y3⟩, ⟨z0, z1, z2, z3⟩, x0, x1, x2, x3, s3, s2, s1⟩ := HK.out W (Below.refl _ _)
  go_wp2_with fail
  refine (rtable_any 5 (by decide) _).mono ?_
  rintro e w1 ⟨rfl, hb1⟩
  have HB1 := Lib.hid hb1
  clear y0 y1 y2 y3 z0 z1 z2 z3 x0 x1 x2 x3 s1 s2 s3 hb1
  obtain ⟨⟨y0, y1, y2, y3⟩, ⟨z0, z1, z2, z3⟩, x0, x1, x2, x3, s3, s2, s1⟩ := HK.out w1 HB1.out
  go_wp2_with fail
  refine (rlocal_any ⟨⟨pa, pn, pc⟩, ⟨la, ln, lc⟩, r, ⟨ca, cn, cc⟩⟩ f a _ (deepF_below HF.out (b_call HBW.out HB1.out)) HL1.out HL2.out).mono ?_
  rintro e w2 ⟨rfl, hb2⟩
  have HB2 := Lib.hid (b_call HB1.out hb2)
  clear hb2
  clear y0 y1 y2 y3 z0 z1 z2 z3 x0 x1 x2 x3 s1 s2 s3
  obtain ⟨⟨y0, y1, y2, y3⟩, ⟨z0, z1, z2, z3⟩, x0, x1, x2, x3, s3, s2, s1⟩ := HK.out w2 HB2.out
  rw [← HZE.out]
  rcases HZ.out with ⟨q1, q2, q3⟩ | ⟨q1, q2⟩
  · have Q1 := Lib.hid q1; have Q2 := Lib.hid q2
    clear q1 q2
    go_wp2_with fail
    go_ret3
    have D : Hid (ifNamed (inL (f.ps ++ f.ls) a) ⟨[atL (f.ps ++ f.ls) a], [], 0⟩ = ⟨[z], [], 0⟩) := Lib.hid (by rw [Q1.out, Q2.out]; rfl)
    show RetD w _ _ _
    rw [D.out]
    exact ⟨_, _, none, 0, rfl, readI_lit [z] (by simp) (by simp), readI_nil _, b_call HBW.out (b_alloc HB2.out _)⟩
  · have Q1 := Lib.hid q1
    clear q1
    subst q2
    go_wp2_with fail
    go_ret3
    have D : Hid (ifNamed (inL (f.ps ++ f.ls) a) ⟨[atL (f.ps ++ f.ls) a], [], 0⟩ = bad 5) := Lib.hid (by rw [Q1.out]; rfl)
    show RetD w _ _ _
    rw [D.out]
    exact ⟨none, 0, none, 0, rfl, readI_nil _, readI_nil _, b_call HBW.out HB2.out⟩
set_option maxRecDepth 100000 in
set_option maxHeartbeats 2000000 in
theorem rdeal6 (p : PrV) (P : PrM) (v : FnV) (f : FnM) (x a b : Int) (sa : Option Addr) (sc : Nat) (st : List Int) (w : World) (h : ReadP w p P) (hs : SmallP P) (hf : DeepF w v f) (h1 : f.ps.length ≤ 10) (h2 : f.ls.length ≤ 10) (hst : ReadI w (.slice sa st.length sc) st) (hl : st.length ≤ 100) (hk : ∀ y ∈ P.gl, 0 ≤ y) : Calls Try.prog 81 #[aggP p, aggF v, .agg #[.int .i64 6, .int .u64 x, .int .i64 a, .int .i64 b], .slice sa st.length sc] w (RetD w (ifNamed (inL P.gl a) ⟨[], [atL P.gl a], 0⟩)) := by
  obtain ⟨z, hz⟩ : ∃ z, z = kindL P.gl a := ⟨_, rfl⟩
  have HZ : Hid ((inL P.gl a = true ∧ z = atL P.gl a ∧ 0 ≤ z) ∨ (inL P.gl a = false ∧ z = -1)) := Lib.hid (by
    unfold kindL at hz
    cases q : inL P.gl a
    · rw [q] at hz; exact Or.inr ⟨rfl, hz⟩
    · rw [q] at hz
      refine Or.inl ⟨rfl, hz, ?_⟩
      rw [hz]
      unfold inL at q
      rw [Bool.and_eq_true, decide_eq_true_iff, decide_eq_true_iff] at q
      unfold atL
      rw [if_pos rfl, List.getD_eq_getElem?_getD, List.getElem?_eq_getElem (by omega)]
      exact hk _ (List.getElem_mem _))
  have HZE := Lib.hid hz
  clear hz hk
  obtain ⟨u, ⟨ga, gn, gc⟩, m, ⟨fa, fn, fc⟩⟩ := p
  obtain ⟨⟨pa, pn, pc⟩, ⟨la, ln, lc⟩, r, ⟨ca, cn, cc⟩⟩ := v
  have HR := Lib.hid h; have HF := Lib.hid hf; have HST := Lib.hid hst; have HS := Lib.hid hs
  have HL1 := Lib.hid h1; have HL2 := Lib.hid h2
  obtain ⟨hq0, hsc, hsc2⟩ := int_len (s := ⟨sa, st.length, sc⟩) hst
  clear hq0
  simp only at hsc hsc2
  clear h hf hst hs h1 h2
  unfold aggP aggF Sl.v
  simp only
  go_enter Try.func81, Try.ntmps81
  go_upto_region 1 with fail
  refine wp_named ?_
  intro W hW
  obtain ⟨q1, q2, q3, q4⟩ := boxes3 w #[.bool u, .slice ga gn gc, .int .i64 m, .slice fa fn fc] #[.slice pa pn pc, .slice la ln lc, .int .i64 r, .slice ca cn cc] #[.int .i64 6, .int .u64 x, .int .i64 a, .int .i64 b] 25 35 98
  rw [← hW] at q1 q2 q3 q4
  have HBW := Lib.hid q4
  have HK : Hid (∀ w', Below W.heap.size W w' → (w'.cell? ⟨w.heap.size, 0, none⟩ = some (.bool u) ∧ w'.cell? ⟨w.heap.size, 1, none⟩ = some (.slice ga gn gc) ∧ w'.cell? ⟨w.heap.size, 2, none⟩ = some (.int .i64 m) ∧ w'.cell? ⟨w.heap.size, 3, none⟩ = some (.slice fa fn fc)) ∧ (w'.cell? ⟨w.heap.size + 1, 0, none⟩ = some (.slice pa pn pc) ∧ w'.cell? ⟨w.heap.size + 1, 1, none⟩ = some (.slice la ln lc) ∧ w'.cell? ⟨w.heap.size + 1, 2, none⟩ = some (.int .i64 r) ∧ w'.cell? ⟨w.heap.size + 1, 3, none⟩ = some (.slice ca cn cc)) ∧ (w'.cell? ⟨w.heap.size + 2, 0, none⟩ = some (.int .i64 6) ∧ w'.cell? ⟨w.heap.size + 2, 1, none⟩ = some (.int .u64 x) ∧ w'.cell? ⟨w.heap.size + 2, 2, none⟩ = some (.int .i64 a) ∧ w'.cell? ⟨w.heap.size + 2, 3, none⟩ = some (.int .i64 b) ∧ w.heap.size + 1 + 1 < w'.heap.size ∧ w.heap.size + 1 < w'.heap.size ∧ w.heap.size < w'.heap.size)) := Lib.hid (fun w' hb => by
    obtain ⟨y0, y1, y2, y3, _⟩ := blk4 (blk_below q1 hb)
    obtain ⟨z0, z1, z2, z3, _⟩ := blk4 (blk_below q2 hb)
    obtain ⟨x0, x1, x2, x3, _⟩ := blk4 (blk_below q3 hb)
    have hs1 := (blk_below q1 hb).1; have hs2 := (blk_below q2 hb).1; have hs3 := (blk_below q3 hb).1
    exact ⟨⟨y0, y1, y2, y3⟩, ⟨z0, z1, z2, z3⟩, x0, x1, x2, x3, hs3, hs2, hs1⟩)
  clear hW q1 q2 q3 q4
  obtain ⟨⟨y0, y1, y2, y3⟩, ⟨z0, z1, z2, z3⟩, x0, x1, x2, x3, s3, s2, s1⟩ := HK.out W (Below.refl _ _)
  go_wp2_with fail
  refine (rtable_any 6 (by decide) _).mono ?_
  rintro e w1 ⟨rfl, hb1⟩
  have HB1 := Lib.hid hb1
  clear y0 y1 y2 y3 z0 z1 z2 z3 x0 x1 x2 x3 s1 s2 s3 hb1
  obtain ⟨⟨y0, y1, y2, y3⟩, ⟨z0, z1, z2, z3⟩, x0, x1, x2, x3, s3, s2, s1⟩ := HK.out w1 HB1.out
  go_wp2_with fail
  refine (rlocal_any ⟨⟨pa, pn, pc⟩, ⟨la, ln, lc⟩, r, ⟨ca, cn, cc⟩⟩ f a _ (deepF_below HF.out (b_call HBW.out HB1.out)) HL1.out HL2.out).mono ?_
  rintro e w2 ⟨rfl, hb2⟩
  have HB2 := Lib.hid (b_call HB1.out hb2)
  clear hb2
  clear y0 y1 y2 y3 z0 z1 z2 z3 x0 x1 x2 x3 s1 s2 s3
  obtain ⟨⟨y0, y1, y2, y3⟩, ⟨z0, z1, z2, z3⟩, x0, x1, x2, x3, s3, s2, s1⟩ := HK.out w2 HB2.out
  go_wp2_with fail
  refine (rlocal_any ⟨⟨ga, gn, gc⟩, ⟨none, 0, 0⟩, 0, ⟨none, 0, 0⟩⟩ ⟨P.gl, [], 0, []⟩ a _ ⟨readI_below HR.out.g (b_call HBW.out HB2.out), readI_nil _, rfl, readR_nil _⟩ HS.out.g (by simp)).mono ?_
  rintro e w3 ⟨rfl, hb3⟩
  have HB3 := Lib.hid (b_call HB2.out hb3)
  clear hb3
  simp only [List.append_nil]
  rw [← HZE.out]
  clear y0 y1 y2 y3 z0 z1 z2 z3 x0 x1 x2 x3 s1 s2 s3
  obtain ⟨⟨y0, y1, y2, y3⟩, ⟨z0, z1, z2, z3⟩, x0, x1, x2, x3, s3, s2, s1⟩ := HK.out w3 HB3.out
  rcases HZ.out with ⟨q1, q2, q3⟩ | ⟨q1, q2⟩
  · have Q1 := Lib.hid q1; have Q2 := Lib.hid q2
    clear q1 q2
    go_wp2_with fail
    go_ret3
    have D : Hid (ifNamed (inL P.gl a) ⟨[], [atL P.gl a], 0⟩ = ⟨[], [z], 0⟩) := Lib.hid (by rw [Q1.out, Q2.out]; rfl)
    show RetD w _ _ _
    rw [D.out]
    exact ⟨none, 0, _, _, rfl, readI_nil _, readI_lit [z] (by simp) (by simp), b_call HBW.out (b_alloc HB3.out _)⟩
  · have Q1 := Lib.hid q1
    clear q1
    subst q2
    go_wp2_with fail
    go_ret3
    have D : Hid (ifNamed (inL P.gl a) ⟨[], [atL P.gl a], 0⟩ = bad 5) := Lib.hid (by rw [Q1.out]; rfl)
    show RetD w _ _ _
    rw [D.out]
    exact ⟨none, 0, none, 0, rfl, readI_nil _, readI_nil _, b_call HBW.out HB3.out⟩
set_option maxRecDepth 100000 in
set_option maxHeartbeats 2000000 in
theorem rdeal7 (p : PrV) (P : PrM) (v : FnV) (f : FnM) (x a b : Int) (sa : Option Addr) (sc : Nat) (st : List Int) (w : World) (h : ReadP w p P) (hs : SmallP P) (hf : DeepF w v f) (h1 : f.ps.length ≤ 10) (h2 : f.ls.length ≤ 10) (hst : ReadI w (.slice sa st.length sc) st) (hl : st.length ≤ 100) (hk : ∀ y ∈ P.gl, 0 ≤ y) : Calls Try.prog 81 #[aggP p, aggF v, .agg #[.int .i64 7, .int .u64 x, .int .i64 a, .int .i64 b], .slice sa st.length sc] w (RetD w (ifNamed (inL P.gl a) ⟨[atL P.gl a], [], 0⟩)) := by
  obtain ⟨z, hz⟩ : ∃ z, z = kindL P.gl a := ⟨_, rfl⟩
  have HZ : Hid ((inL P.gl a = true ∧ z = atL P.gl a ∧ 0 ≤ z) ∨ (inL P.gl a = false ∧ z = -1)) := Lib.hid (by
    unfold kindL at hz
    cases q : inL P.gl a
    · rw [q] at hz; exact Or.inr ⟨rfl, hz⟩
    · rw [q] at hz
      refine Or.inl ⟨rfl, hz, ?_⟩
      rw [hz]
      unfold inL at q
      rw [Bool.and_eq_true, decide_eq_true_iff, decide_eq_true_iff] at q
      unfold atL
      rw [if_pos rfl, List.getD_eq_getElem?_getD, List.getElem?_eq_getElem (by omega)]
      exact hk _ (List.getElem_mem _))
  have HZE := Lib.hid hz
  clear hz hk
  obtain ⟨u, ⟨ga, gn, gc⟩, m, ⟨fa, fn, fc⟩⟩ := p
  obtain ⟨⟨pa, pn, pc⟩, ⟨la, ln, lc⟩, r, ⟨ca, cn, cc⟩⟩ := v
  have HR := Lib.hid h; have HF := Lib.hid hf; have HST := Lib.hid hst; have HS := Lib.hid hs
  have HL1 := Lib.hid h1; have HL2 := Lib.hid h2
  obtain ⟨hq0, hsc, hsc2⟩ := int_len (s := ⟨sa, st.length, sc⟩) hst
  clear hq0
  simp only at hsc hsc2
  clear h hf hst hs h1 h2
  unfold aggP aggF Sl.v
  simp only
  go_enter Try.func81, Try.ntmps81
  go_upto_region 1 with fail
  refine wp_named ?_
  intro W hW
  obtain ⟨q1, q2, q3, q4⟩ := boxes3 w #[.bool u, .slice ga gn gc, .int .i64 m, .slice fa fn fc] #[.slice pa pn pc, .slice la ln lc, .int .i64 r, .slice ca cn cc] #[.int .i64 7, .int .u64 x, .int .i64 a, .int .i64 b] 25 35 98
  rw [← hW] at q1 q2 q3 q4
  have HBW := Lib.hid q4
  have HK : Hid (∀ w', Below W.heap.size W w' → (w'.cell? ⟨w.heap.size, 0, none⟩ = some (.bool u) ∧ w'.cell? ⟨w.heap.size, 1, none⟩ = some (.slice ga gn gc) ∧ w'.cell? ⟨w.heap.size, 2, none⟩ = some (.int .i64 m) ∧ w'.cell? ⟨w.heap.size, 3, none⟩ = some (.slice fa fn fc)) ∧ (w'.cell? ⟨w.heap.size + 1, 0, none⟩ = some (.slice pa pn pc) ∧ w'.cell? ⟨w.heap.size + 1, 1, none⟩ = some (.slice la ln lc) ∧ w'.cell? ⟨w.heap.size + 1, 2, none⟩ = some (.int .i64 r) ∧ w'.cell? ⟨w.heap.size + 1, 3, none⟩ = some (.slice ca cn cc)) ∧ (w'.cell? ⟨w.heap.size + 2, 0, none⟩ = some (.int .i64 7) ∧ w'.cell? ⟨w.heap.size + 2, 1, none⟩ = some (.int .u64 x) ∧ w'.cell? ⟨w.heap.size + 2, 2, none⟩ = some (.int .i64 a) ∧ w'.cell? ⟨w.heap.size + 2, 3, none⟩ = some (.int .i64 b) ∧ w.heap.size + 1 + 1 < w'.heap.size ∧ w.heap.size + 1 < w'.heap.size ∧ w.heap.size < w'.heap.size)) := Lib.hid (fun w' hb => by
    obtain ⟨y0, y1, y2, y3, _⟩ := blk4 (blk_below q1 hb)
    obtain ⟨z0, z1, z2, z3, _⟩ := blk4 (blk_below q2 hb)
    obtain ⟨x0, x1, x2, x3, _⟩ := blk4 (blk_below q3 hb)
    have hs1 := (blk_below q1 hb).1; have hs2 := (blk_below q2 hb).1; have hs3 := (blk_below q3 hb).1
    exact ⟨⟨y0, y1, y2, y3⟩, ⟨z0, z1, z2, z3⟩, x0, x1, x2, x3, hs3, hs2, hs1⟩)
  clear hW q1 q2 q3 q4
  obtain ⟨⟨y0, y1, y2, y3⟩, ⟨z0, z1, z2, z3⟩, x0, x1, x2, x3, s3, s2, s1⟩ := HK.out W (Below.refl _ _)
  go_wp2_with fail
  refine (rtable_any 7 (by decide) _).mono ?_
  rintro e w1 ⟨rfl, hb1⟩
  have HB1 := Lib.hid hb1
  clear y0 y1 y2 y3 z0 z1 z2 z3 x0 x1 x2 x3 s1 s2 s3 hb1
  obtain ⟨⟨y0, y1, y2, y3⟩, ⟨z0, z1, z2, z3⟩, x0, x1, x2, x3, s3, s2, s1⟩ := HK.out w1 HB1.out
  go_wp2_with fail
  refine (rlocal_any ⟨⟨pa, pn, pc⟩, ⟨la, ln, lc⟩, r, ⟨ca, cn, cc⟩⟩ f a _ (deepF_below HF.out (b_call HBW.out HB1.out)) HL1.out HL2.out).mono ?_
  rintro e w2 ⟨rfl, hb2⟩
  have HB2 := Lib.hid (b_call HB1.out hb2)
  clear hb2
  clear y0 y1 y2 y3 z0 z1 z2 z3 x0 x1 x2 x3 s1 s2 s3
  obtain ⟨⟨y0, y1, y2, y3⟩, ⟨z0, z1, z2, z3⟩, x0, x1, x2, x3, s3, s2, s1⟩ := HK.out w2 HB2.out
  go_wp2_with fail
  refine (rlocal_any ⟨⟨ga, gn, gc⟩, ⟨none, 0, 0⟩, 0, ⟨none, 0, 0⟩⟩ ⟨P.gl, [], 0, []⟩ a _ ⟨readI_below HR.out.g (b_call HBW.out HB2.out), readI_nil _, rfl, readR_nil _⟩ HS.out.g (by simp)).mono ?_
  rintro e w3 ⟨rfl, hb3⟩
  have HB3 := Lib.hid (b_call HB2.out hb3)
  clear hb3
  simp only [List.append_nil]
  rw [← HZE.out]
  clear y0 y1 y2 y3 z0 z1 z2 z3 x0 x1 x2 x3 s1 s2 s3
  obtain ⟨⟨y0, y1, y2, y3⟩, ⟨z0, z1, z2, z3⟩, x0, x1, x2, x3, s3, s2, s1⟩ := HK.out w3 HB3.out
  rcases HZ.out with ⟨q1, q2, q3⟩ | ⟨q1, q2⟩
  · have Q1 := Lib.hid q1; have Q2 := Lib.hid q2
    clear q1 q2
    go_wp2_with fail
    go_ret3
    have D : Hid (ifNamed (inL P.gl a) ⟨[atL P.gl a], [], 0⟩ = ⟨[z], [], 0⟩) := Lib.hid (by rw [Q1.out, Q2.out]; rfl)
    show RetD w _ _ _
    rw [D.out]
    exact ⟨_, _, none, 0, rfl, readI_lit [z] (by simp) (by simp), readI_nil _, b_call HBW.out (b_alloc HB3.out _)⟩
  · have Q1 := Lib.hid q1
    clear q1
    subst q2
    go_wp2_with fail
    go_ret3
    have D : Hid (ifNamed (inL P.gl a) ⟨[atL P.gl a], [], 0⟩ = bad 5) := Lib.hid (by rw [Q1.out]; rfl)
    show RetD w _ _ _
    rw [D.out]
    exact ⟨none, 0, none, 0, rfl, readI_nil _, readI_nil _, b_call HBW.out HB3.out⟩
set_option maxRecDepth 100000 in
set_option maxHeartbeats 2000000 in
theorem rdeal_plain (p : PrV) (P : PrM) (v : FnV) (f : FnM) (op : Nat) (x a b : Int) (sa : Option Addr) (sc : Nat) (st : List Int) (w : World) (h : ReadP w p P) (hs : SmallP P) (hf : DeepF w v f) (h1 : f.ps.length ≤ 10) (h2 : f.ls.length ≤ 10) (hst : ReadI w (.slice sa st.length sc) st) (hl : st.length ≤ 100) (hop : op < 37) (hno : op ∉ [4, 5, 6, 7, 8, 9, 10, 11, 14, 15, 17, 28, 31, 32, 36]) : Calls Try.prog 81 #[aggP p, aggF v, .agg #[.int .i64 op, .int .u64 x, .int .i64 a, .int .i64 b], .slice sa st.length sc] w (RetD w (⟨takesT op, putsT op, 0⟩)) := by
  have n4 : ((op : Int) == 4) = false := by rw [beq_eq_false_iff_ne]; intro e; exact hno (by rw [show op = 4 by omega]; decide)
  have n5 : ((op : Int) == 5) = false := by rw [beq_eq_false_iff_ne]; intro e; exact hno (by rw [show op = 5 by omega]; decide)
  have n6 : ((op : Int) == 6) = false := by rw [beq_eq_false_iff_ne]; intro e; exact hno (by rw [show op = 6 by omega]; decide)
  have n7 : ((op : Int) == 7) = false := by rw [beq_eq_false_iff_ne]; intro e; exact hno (by rw [show op = 7 by omega]; decide)
  have n8 : ((op : Int) == 8) = false := by rw [beq_eq_false_iff_ne]; intro e; exact hno (by rw [show op = 8 by omega]; decide)
  have n9 : ((op : Int) == 9) = false := by rw [beq_eq_false_iff_ne]; intro e; exact hno (by rw [show op = 9 by omega]; decide)
  have n10 : ((op : Int) == 10) = false := by rw [beq_eq_false_iff_ne]; intro e; exact hno (by rw [show op = 10 by omega]; decide)
  have n11 : ((op : Int) == 11) = false := by rw [beq_eq_false_iff_ne]; intro e; exact hno (by rw [show op = 11 by omega]; decide)
  have n14 : ((op : Int) == 14) = false := by rw [beq_eq_false_iff_ne]; intro e; exact hno (by rw [show op = 14 by omega]; decide)
  have n15 : ((op : Int) == 15) = false := by rw [beq_eq_false_iff_ne]; intro e; exact hno (by rw [show op = 15 by omega]; decide)
  have n17 : ((op : Int) == 17) = false := by rw [beq_eq_false_iff_ne]; intro e; exact hno (by rw [show op = 17 by omega]; decide)
  have n28 : ((op : Int) == 28) = false := by rw [beq_eq_false_iff_ne]; intro e; exact hno (by rw [show op = 28 by omega]; decide)
  have n31 : ((op : Int) == 31) = false := by rw [beq_eq_false_iff_ne]; intro e; exact hno (by rw [show op = 31 by omega]; decide)
  have n32 : ((op : Int) == 32) = false := by rw [beq_eq_false_iff_ne]; intro e; exact hno (by rw [show op = 32 by omega]; decide)
  have n36 : ((op : Int) == 36) = false := by rw [beq_eq_false_iff_ne]; intro e; exact hno (by rw [show op = 36 by omega]; decide)
  clear hno
  obtain ⟨u, ⟨ga, gn, gc⟩, m, ⟨fa, fn, fc⟩⟩ := p
  obtain ⟨⟨pa, pn, pc⟩, ⟨la, ln, lc⟩, r, ⟨ca, cn, cc⟩⟩ := v
  have HR := Lib.hid h; have HF := Lib.hid hf; have HST := Lib.hid hst; have HS := Lib.hid hs
  have HL1 := Lib.hid h1; have HL2 := Lib.hid h2
  obtain ⟨hq0, hsc, hsc2⟩ := int_len (s := ⟨sa, st.length, sc⟩) hst
  clear hq0
  simp only at hsc hsc2
  clear h hf hst hs h1 h2
  unfold aggP aggF Sl.v
  simp only
  go_enter Try.func81, Try.ntmps81
  go_upto_region 1 with fail
  refine wp_named ?_
  intro W hW
  obtain ⟨q1, q2, q3, q4⟩ := boxes3 w #[.bool u, .slice ga gn gc, .int .i64 m, .slice fa fn fc] #[.slice pa pn pc, .slice la ln lc, .int .i64 r, .slice ca cn cc] #[.int .i64 op, .int .u64 x, .int .i64 a, .int .i64 b] 25 35 98
  rw [← hW] at q1 q2 q3 q4
  have HBW := Lib.hid q4
  have HK : Hid (∀ w', Below W.heap.size W w' → (w'.cell? ⟨w.heap.size, 0, none⟩ = some (.bool u) ∧ w'.cell? ⟨w.heap.size, 1, none⟩ = some (.slice ga gn gc) ∧ w'.cell? ⟨w.heap.size, 2, none⟩ = some (.int .i64 m) ∧ w'.cell? ⟨w.heap.size, 3, none⟩ = some (.slice fa fn fc)) ∧ (w'.cell? ⟨w.heap.size + 1, 0, none⟩ = some (.slice pa pn pc) ∧ w'.cell? ⟨w.heap.size + 1, 1, none⟩ = some (.slice la ln lc) ∧ w'.cell? ⟨w.heap.size + 1, 2, none⟩ = some (.int .i64 r) ∧ w'.cell? ⟨w.heap.size + 1, 3, none⟩ = some (.slice ca cn cc)) ∧ (w'.cell? ⟨w.heap.size + 2, 0, none⟩ = some (.int .i64 op) ∧ w'.cell? ⟨w.heap.size + 2, 1, none⟩ = some (.int .u64 x) ∧ w'.cell? ⟨w.heap.size + 2, 2, none⟩ = some (.int .i64 a) ∧ w'.cell? ⟨w.heap.size + 2, 3, none⟩ = some (.int .i64 b) ∧ w.heap.size + 1 + 1 < w'.heap.size ∧ w.heap.size + 1 < w'.heap.size ∧ w.heap.size < w'.heap.size)) := Lib.hid (fun w' hb => by
    obtain ⟨y0, y1, y2, y3, _⟩ := blk4 (blk_below q1 hb)
    obtain ⟨z0, z1, z2, z3, _⟩ := blk4 (blk_below q2 hb)
    obtain ⟨x0, x1, x2, x3, _⟩ := blk4 (blk_below q3 hb)
    have hs1 := (blk_below q1 hb).1; have hs2 := (blk_below q2 hb).1; have hs3 := (blk_below q3 hb).1
    exact ⟨⟨y0, y1, y2, y3⟩, ⟨z0, z1, z2, z3⟩, x0, x1, x2, x3, hs3, hs2, hs1⟩)
  clear hW q1 q2 q3 q4
  obtain ⟨⟨y0, y1, y2, y3⟩, ⟨z0, z1, z2, z3⟩, x0, x1, x2, x3, s3, s2, s1⟩ := HK.out W (Below.refl _ _)
  go_wp2_with fail
  refine (rtable_any op hop _).mono ?_
  rintro e w1 ⟨rfl, hb1⟩
  have HB1 := Lib.hid hb1
  clear y0 y1 y2 y3 z0 z1 z2 z3 x0 x1 x2 x3 s1 s2 s3 hb1
  obtain ⟨⟨y0, y1, y2, y3⟩, ⟨z0, z1, z2, z3⟩, x0, x1, x2, x3, s3, s2, s1⟩ := HK.out w1 HB1.out
  go_wp2_with fail
  refine (rkindsA op hop _).mono ?_
  rintro e w8 ⟨a8, c8, rfl, hr8, hb8⟩
  have HR8 := Lib.hid hr8
  have HB8 := Lib.hid (b_call HB1.out hb8)
  clear hr8 hb8
  go_wp2_with fail
  refine (rkindsB op hop _).mono ?_
  rintro e w9 ⟨a9, c9, rfl, hr9, hb9⟩
  have HR9 := Lib.hid hr9
  have HB9 := Lib.hid (b_call HB8.out hb9)
  have HR89 := Lib.hid (readI_below HR8.out hb9)
  clear hr9 hb9
  go_wp2_with fail
  go_ret3
  exact ⟨a8, c8, a9, c9, rfl, HR89.out, HR9.out, b_call HBW.out HB9.out⟩
end
section
open Go.RowKit
set_option linter.unusedVariables false
set_option linter.unusedSimpArgs false
attribute [local go_sem] over_cell over_frozen
set_option maxRecDepth 100000 in
set_option maxHeartbeats 2000000 in
theorem rdeal8 (p : PrV) (P : PrM) (v : FnV) (f : FnM) (x a b : Int) (sa : Option Addr) (sc : Nat) (st : List Int) (w : World) (h : ReadP w p P) (hs : SmallP P) (hf : DeepF w v f) (h1 : f.ps.length ≤ 10) (h2 : f.ls.length ≤ 10) (hst : ReadI w (.slice sa st.length sc) st) (hl : st.length ≤ 100) : Calls Try.prog 81 #[aggP p, aggF v, .agg #[.int .i64 8, .int .u64 x, .int .i64 a, .int .i64 b], .slice sa st.length sc] w (RetD w (if st.length = 0 then bad 2 else ⟨[topL st], [], 0⟩)) := by
  obtain ⟨N, hN⟩ : ∃ N, N = st.length := ⟨_, rfl⟩
  rw [← hN] at hst hl ⊢
  by_cases h0 : N = 0
  · subst h0
    rw [if_pos rfl]
    have HN := Lib.hid hN
    clear hN
    obtain ⟨u, ⟨ga, gn, gc⟩, m, ⟨fa, fn, fc⟩⟩ := p
    obtain ⟨⟨pa, pn, pc⟩, ⟨la, ln, lc⟩, r, ⟨ca, cn, cc⟩⟩ := v
    have HR := Lib.hid h; have HF := Lib.hid hf; have HST := Lib.hid hst; have HS := Lib.hid hs
    have HL1 := Lib.hid h1; have HL2 := Lib.hid h2
    obtain ⟨hq0, hsc, hsc2⟩ := int_len (s := ⟨sa, 0, sc⟩) hst
    clear hq0
    simp only at hsc hsc2
    clear h hf hst hs h1 h2
    unfold aggP aggF Sl.v
    simp only
    go_enter Try.func81, Try.ntmps81
    go_upto_region 1 with fail
    refine wp_named ?_
    intro W hW
    obtain ⟨q1, q2, q3, q4⟩ := boxes3 w #[.bool u, .slice ga gn gc, .int .i64 m, .slice fa fn fc] #[.slice pa pn pc, .slice la ln lc, .int .i64 r, .slice ca cn cc] #[.int .i64 8, .int .u64 x, .int .i64 a, .int .i64 b] 25 35 98
    rw [← hW] at q1 q2 q3 q4
    have HBW := Lib.hid q4
    have HK : Hid (∀ w', Below W.heap.size W w' → (w'.cell? ⟨w.heap.size, 0, none⟩ = some (.bool u) ∧ w'.cell? ⟨w.heap.size, 1, none⟩ = some (.slice ga gn gc) ∧ w'.cell? ⟨w.heap.size, 2, none⟩ = some (.int .i64 m) ∧ w'.cell? ⟨w.heap.size, 3, none⟩ = some (.slice fa fn fc)) ∧ (w'.cell? ⟨w.heap.size + 1, 0, none⟩ = some (.slice pa pn pc) ∧ w'.cell? ⟨w.heap.size + 1, 1, none⟩ = some (.slice la ln lc) ∧ w'.cell? ⟨w.heap.size + 1, 2, none⟩ = some (.int .i64 r) ∧ w'.cell? ⟨w.heap.size + 1, 3, none⟩ = some (.slice ca cn cc)) ∧ (w'.cell? ⟨w.heap.size + 2, 0, none⟩ = some (.int .i64 8) ∧ w'.cell? ⟨w.heap.size + 2, 1, none⟩ = some (.int .u64 x) ∧ w'.cell? ⟨w.heap.size + 2, 2, none⟩ = some (.int .i64 a) ∧ w'.cell? ⟨w.heap.size + 2, 3, none⟩ = some (.int .i64 b) ∧ w.heap.size + 1 + 1 < w'.heap.size ∧ w.heap.size + 1 < w'.heap.size ∧ w.heap.size < w'.heap.size)) := Lib.hid (fun w' hb => by
      obtain ⟨y0, y1, y2, y3, _⟩ := blk4 (blk_below q1 hb)
      obtain ⟨z0, z1, z2, z3, _⟩ := blk4 (blk_below q2 hb)
      obtain ⟨x0, x1, x2, x3, _⟩ := blk4 (blk_below q3 hb)
      have hs1 := (blk_below q1 hb).1; have hs2 := (blk_below q2 hb).1; have hs3 := (blk_below q3 hb).1
      exact ⟨⟨y0, y1, y2, y3⟩, ⟨z0, z1, z2, z3⟩, x0, x1, x2, x3, hs3, hs2, hs1⟩)
    clear hW q1 q2 q3 q4
    obtain ⟨⟨y0, y1, y2, y3⟩, ⟨z0, z1, z2, z3⟩, x0, x1, x2, x3, s3, s2, s1⟩ := HK.out W (Below.refl _ _)
    go_wp2_with fail
    refine (rtable_any 8 (by decide) _).mono ?_
    rintro e w1 ⟨rfl, hb1⟩
    have HB1 := Lib.hid hb1
    clear y0 y1 y2 y3 z0 z1 z2 z3 x0 x1 x2 x3 s1 s2 s3 hb1
    obtain ⟨⟨y0, y1, y2, y3⟩, ⟨z0, z1, z2, z3⟩, x0, x1, x2, x3, s3, s2, s1⟩ := HK.out w1 HB1.out
    go_wp2_with fail
    go_ret3
    exact ⟨none, 0, none, 0, rfl, readI_nil _, readI_nil _, b_call HBW.out HB1.out⟩
  · rw [if_neg h0]
    obtain ⟨n, rfl⟩ : ∃ n, N = n + 1 := ⟨N - 1, by omega⟩
    obtain ⟨bb, oo, ea, hlt, hcell⟩ := int_at (s := ⟨sa, n + 1, sc⟩) hst (k := n) (by omega)
    simp only at ea
    subst ea
    have hz : topL st = st.getD n 0 := by unfold topL; rw [← hN]; rfl
    rw [← hz] at hcell
    generalize topL st = z at *
    have HCL := Lib.hid hcell
    have HN := Lib.hid hN
    clear hcell hz h0 hN
    obtain ⟨u, ⟨ga, gn, gc⟩, m, ⟨fa, fn, fc⟩⟩ := p
    obtain ⟨⟨pa, pn, pc⟩, ⟨la, ln, lc⟩, r, ⟨ca, cn, cc⟩⟩ := v
    have HR := Lib.hid h; have HF := Lib.hid hf; have HST := Lib.hid hst; have HS := Lib.hid hs
    have HL1 := Lib.hid h1; have HL2 := Lib.hid h2
    obtain ⟨hq0, hsc, hsc2⟩ := int_len (s := ⟨some ⟨bb, oo, none⟩, n + 1, sc⟩) hst
    clear hq0
    simp only at hsc hsc2
    rw [← HN.out] at hsc
    clear h hf hst hs h1 h2
    unfold aggP aggF Sl.v
    simp only
    go_enter Try.func81, Try.ntmps81
    go_upto_region 1 with fail
    refine wp_named ?_
    intro W hW
    obtain ⟨q1, q2, q3, q4⟩ := boxes3 w #[.bool u, .slice ga gn gc, .int .i64 m, .slice fa fn fc] #[.slice pa pn pc, .slice la ln lc, .int .i64 r, .slice ca cn cc] #[.int .i64 8, .int .u64 x, .int .i64 a, .int .i64 b] 25 35 98
    rw [← hW] at q1 q2 q3 q4
    have HBW := Lib.hid q4
    have HK : Hid (∀ w', Below W.heap.size W w' → (w'.cell? ⟨w.heap.size, 0, none⟩ = some (.bool u) ∧ w'.cell? ⟨w.heap.size, 1, none⟩ = some (.slice ga gn gc) ∧ w'.cell? ⟨w.heap.size, 2, none⟩ = some (.int .i64 m) ∧ w'.cell? ⟨w.heap.size, 3, none⟩ = some (.slice fa fn fc)) ∧ (w'.cell? ⟨w.heap.size + 1, 0, none⟩ = some (.slice pa pn pc) ∧ w'.cell? ⟨w.heap.size + 1, 1, none⟩ = some (.slice la ln lc) ∧ w'.cell? ⟨w.heap.size + 1, 2, none⟩ = some (.int .i64 r) ∧ w'.cell? ⟨w.heap.size + 1, 3, none⟩ = some (.slice ca cn cc)) ∧ (w'.cell? ⟨w.heap.size + 2, 0, none⟩ = some (.int .i64 8) ∧ w'.cell? ⟨w.heap.size + 2, 1, none⟩ = some (.int .u64 x) ∧ w'.cell? ⟨w.heap.size + 2, 2, none⟩ = some (.int .i64 a) ∧ w'.cell? ⟨w.heap.size + 2, 3, none⟩ = some (.int .i64 b) ∧ w.heap.size + 1 + 1 < w'.heap.size ∧ w.heap.size + 1 < w'.heap.size ∧ w.heap.size < w'.heap.size)) := Lib.hid (fun w' hb => by
      obtain ⟨y0, y1, y2, y3, _⟩ := blk4 (blk_below q1 hb)
      obtain ⟨z0, z1, z2, z3, _⟩ := blk4 (blk_below q2 hb)
      obtain ⟨x0, x1, x2, x3, _⟩ := blk4 (blk_below q3 hb)
      have hs1 := (blk_below q1 hb).1; have hs2 := (blk_below q2 hb).1; have hs3 := (blk_below q3 hb).1
      exact ⟨⟨y0, y1, y2, y3⟩, ⟨z0, z1, z2, z3⟩, x0, x1, x2, x3, hs3, hs2, hs1⟩)
    clear hW q1 q2 q3 q4
    obtain ⟨⟨y0, y1, y2, y3⟩, ⟨z0, z1, z2, z3⟩, x0, x1, x2, x3, s3, s2, s1⟩ := HK.out W (Below.refl _ _)
    go_wp2_with fail
    refine (rtable_any 8 (by decide) _).mono ?_
    rintro e w1 ⟨rfl, hb1⟩
    have HB1 := Lib.hid hb1
    clear y0 y1 y2 y3 z0 z1 z2 z3 x0 x1 x2 x3 s1 s2 s3 hb1
    obtain ⟨⟨y0, y1, y2, y3⟩, ⟨z0, z1, z2, z3⟩, x0, x1, x2, x3, s3, s2, s1⟩ := HK.out w1 HB1.out
    have hc1 : w1.cell? ⟨bb, oo + n, none⟩ = some (.int .i64 z) := ((bcell (b_call HBW.out HB1.out)).1 _ _ hlt).trans HCL.out
    have hbl : bb < w1.heap.size := by have := HBW.out.size; have := HB1.out.size; omega
    have n0 : (0 : Int) ≤ n := by omega
    have nb : (n : Int) + 1 ≤ 100 := by omega
    go_wp2_with fail
    go_ret3
    exact ⟨_, _, none, 0, rfl, readI_lit [z] (by simp) (by simp), readI_nil _, b_call HBW.out (b_alloc HB1.out _)⟩
set_option maxRecDepth 100000 in
set_option maxHeartbeats 2000000 in
theorem rdeal9 (p : PrV) (P : PrM) (v : FnV) (f : FnM) (x a b : Int) (sa : Option Addr) (sc : Nat) (st : List Int) (w : World) (h : ReadP w p P) (hs : SmallP P) (hf : DeepF w v f) (h1 : f.ps.length ≤ 10) (h2 : f.ls.length ≤ 10) (hst : ReadI w (.slice sa st.length sc) st) (hl : st.length ≤ 100) : Calls Try.prog 81 #[aggP p, aggF v, .agg #[.int .i64 9, .int .u64 x, .int .i64 a, .int .i64 b], .slice sa st.length sc] w (RetD w (if st.length = 0 then bad 2 else ⟨[topL st], [topL st, topL st], 0⟩)) := by
  obtain ⟨N, hN⟩ : ∃ N, N = st.length := ⟨_, rfl⟩
  rw [← hN] at hst hl ⊢
  by_cases h0 : N = 0
  · subst h0
    rw [if_pos rfl]
    have HN := Lib.hid hN
    clear hN
    obtain ⟨u, ⟨ga, gn, gc⟩, m, ⟨fa, fn, fc⟩⟩ := p
    obtain ⟨⟨pa, pn, pc⟩, ⟨la, ln, lc⟩, r, ⟨ca, cn, cc⟩⟩ := v
    have HR := Lib.hid h; have HF := Lib.hid hf; have HST := Lib.hid hst; have HS := Lib.hid hs
    have HL1 := Lib.hid h1; have HL2 := Lib.hid h2
    obtain ⟨hq0, hsc, hsc2⟩ := int_len (s := ⟨sa, 0, sc⟩) hst
    clear hq0
    simp only at hsc hsc2
    clear h hf hst hs h1 h2
    unfold aggP aggF Sl.v
    simp only
    go_enter Try.func81, Try.ntmps81
    go_upto_region 1 with fail
    refine wp_named ?_
    intro W hW
    obtain ⟨q1, q2, q3, q4⟩ := boxes3 w #[.bool u, .slice ga gn gc, .int .i64 m, .slice fa fn fc] #[.slice pa pn pc, .slice la ln lc, .int .i64 r, .slice ca cn cc] #[.int .i64 9, .int .u64 x, .int .i64 a, .int .i64 b] 25 35 98
    rw [← hW] at q1 q2 q3 q4
    have HBW := Lib.hid q4
    have HK : Hid (∀ w', Below W.heap.size W w' → (w'.cell? ⟨w.heap.size, 0, none⟩ = some (.bool u) ∧ w'.cell? ⟨w.heap.size, 1, none⟩ = some (.slice ga gn gc) ∧ w'.cell? ⟨w.heap.size, 2, none⟩ = some (.int .i64 m) ∧ w'.cell? ⟨w.heap.size, 3, none⟩ = some (.slice fa fn fc)) ∧ (w'.cell? ⟨w.heap.size + 1, 0, none⟩ = some (.slice pa pn pc) ∧ w'.cell? ⟨w.heap.size + 1, 1, none⟩ = some (.slice la ln lc) ∧ w'.cell? ⟨w.heap.size + 1, 2, none⟩ = some (.int .i64 r) ∧ w'.cell? ⟨w.heap.size + 1, 3, none⟩ = some (.slice ca cn cc)) ∧ (w'.cell? ⟨w.heap.size + 2, 0, none⟩ = some (.int .i64 9) ∧ w'.cell? ⟨w.heap.size + 2, 1, none⟩ = some (.int .u64 x) ∧ w'.cell? ⟨w.heap.size + 2, 2, none⟩ = some (.int .i64 a) ∧ w'.cell? ⟨w.heap.size + 2, 3, none⟩ = some (.int .i64 b) ∧ w.heap.size + 1 + 1 < w'.heap.size ∧ w.heap.size + 1 < w'.heap.size ∧ w.heap.size < w'.heap.size)) := Lib.hid (fun w' hb => by
      obtain ⟨y0, y1, y2, y3, _⟩ := blk4 (blk_below q1 hb)
      obtain ⟨z0, z1, z2, z3, _⟩ := blk4 (blk_below q2 hb)
      obtain ⟨x0, x1, x2, x3, _⟩ := blk4 (blk_below q3 hb)
      have hs1 := (blk_below q1 hb).1; have hs2 := (blk_below q2 hb).1; have hs3 := (blk_below q3 hb).1
      exact ⟨⟨y0, y1, y2, y3⟩, ⟨z0, z1, z2, z3⟩, x0, x1, x2, x3, hs3, hs2, hs1⟩)
    clear hW q1 q2 q3 q4
    obtain ⟨⟨y0, y1, y2, y3⟩, ⟨z0, z1, z2, z3⟩, x0, x1, x2, x3, s3, s2, s1⟩ := HK.out W (Below.refl _ _)
    go_wp2_with fail
    refine (rtable_any 9 (by decide) _).mono ?_
    rintro e w1 ⟨rfl, hb1⟩
    have HB1 := Lib.hid hb1
    clear y0 y1 y2 y3 z0 z1 z2 z3 x0 x1 x2 x3 s1 s2 s3 hb1
    obtain ⟨⟨y0, y1, y2, y3⟩, ⟨z0, z1, z2, z3⟩, x0, x1, x2, x3, s3, s2, s1⟩ := HK.out w1 HB1.out
    go_wp2_with fail
    go_ret3
    exact ⟨none, 0, none, 0, rfl, readI_nil _, readI_nil _, b_call HBW.out HB1.out⟩
  · rw [if_neg h0]
    obtain ⟨n, rfl⟩ : ∃ n, N = n + 1 := ⟨N - 1, by omega⟩
    obtain ⟨bb, oo, ea, hlt, hcell⟩ := int_at (s := ⟨sa, n + 1, sc⟩) hst (k := n) (by omega)
    simp only at ea
    subst ea
    have hz : topL st = st.getD n 0 := by unfold topL; rw [← hN]; rfl
    rw [← hz] at hcell
    generalize topL st = z at *
    have HCL := Lib.hid hcell
    have HN := Lib.hid hN
    clear hcell hz h0 hN
    obtain ⟨u, ⟨ga, gn, gc⟩, m, ⟨fa, fn, fc⟩⟩ := p
    obtain ⟨⟨pa, pn, pc⟩, ⟨la, ln, lc⟩, r, ⟨ca, cn, cc⟩⟩ := v
    have HR := Lib.hid h; have HF := Lib.hid hf; have HST := Lib.hid hst; have HS := Lib.hid hs
    have HL1 := Lib.hid h1; have HL2 := Lib.hid h2
    obtain ⟨hq0, hsc, hsc2⟩ := int_len (s := ⟨some ⟨bb, oo, none⟩, n + 1, sc⟩) hst
    clear hq0
    simp only at hsc hsc2
    rw [← HN.out] at hsc
    clear h hf hst hs h1 h2
    unfold aggP aggF Sl.v
    simp only
    go_enter Try.func81, Try.ntmps81
    go_upto_region 1 with fail
    refine wp_named ?_
    intro W hW
    obtain ⟨q1, q2, q3, q4⟩ := boxes3 w #[.bool u, .slice ga gn gc, .int .i64 m, .slice fa fn fc] #[.slice pa pn pc, .slice la ln lc, .int .i64 r, .slice ca cn cc] #[.int .i64 9, .int .u64 x, .int .i64 a, .int .i64 b] 25 35 98
    rw [← hW] at q1 q2 q3 q4
    have HBW := Lib.hid q4
    have HK : Hid (∀ w', Below W.heap.size W w' → (w'.cell? ⟨w.heap.size, 0, none⟩ = some (.bool u) ∧ w'.cell? ⟨w.heap.size, 1, none⟩ = some (.slice ga gn gc) ∧ w'.cell? ⟨w.heap.size, 2, none⟩ = some (.int .i64 m) ∧ w'.cell? ⟨w.heap.size, 3, none⟩ = some (.slice fa fn fc)) ∧ (w'.cell? ⟨w.heap.size + 1, 0, none⟩ = some (.slice pa pn pc) ∧ w'.cell? ⟨w.heap.size + 1, 1, none⟩ = some (.slice la ln lc) ∧ w'.cell? ⟨w.heap.size + 1, 2, none⟩ = some (.int .i64 r) ∧ w'.cell? ⟨w.heap.size + 1, 3, none⟩ = some (.slice ca cn cc)) ∧ (w'.cell? ⟨w.heap.size + 2, 0, none⟩ = some (.int .i64 9) ∧ w'.cell? ⟨w.heap.size + 2, 1, none⟩ = some (.int .u64 x) ∧ w'.cell? ⟨w.heap.size + 2, 2, none⟩ = some (.int .i64 a) ∧ w'.cell? ⟨w.heap.size + 2, 3, none⟩ = some (.int .i64 b) ∧ w.heap.size + 1 + 1 < w'.heap.size ∧ w.heap.size + 1 < w'.heap.size ∧ w.heap.size < w'.heap.size)) := Lib.hid (fun w' hb => by
      obtain ⟨y0, y1, y2, y3, _⟩ := blk4 (blk_below q1 hb)
      obtain ⟨z0, z1, z2, z3, _⟩ := blk4 (blk_below q2 hb)
      obtain ⟨x0, x1, x2, x3, _⟩ := blk4 (blk_below q3 hb)
      have hs1 := (blk_below q1 hb).1; have hs2 := (blk_below q2 hb).1; have hs3 := (blk_below q3 hb).1
      exact ⟨⟨y0, y1, y2, y3⟩, ⟨z0, z1, z2, z3⟩, x0, x1, x2, x3, hs3, hs2, hs1⟩)
    clear hW q1 q2 q3 q4
    obtain ⟨⟨y0, y1, y2, y3⟩, ⟨z0, z1, z2, z3⟩, x0, x1, x2, x3, s3, s2, s1⟩ := HK.out W (Below.refl _ _)
    go_wp2_with fail
    refine (rtable_any 9 (by decide) _).mono ?_
    rintro e w1 ⟨rfl, hb1⟩
    have HB1 := Lib.hid hb1
    clear y0 y1 y2 y3 z0 z1 z2 z3 x0 x1 x2 x3 s1 s2 s3 hb1
    obtain ⟨⟨y0, y1, y2, y3⟩, ⟨z0, z1, z2, z3⟩, x0, x1, x2, x3, s3, s2, s1⟩ := HK.out w1 HB1.out
    have hc1 : w1.cell? ⟨bb, oo + n, none⟩ = some (.int .i64 z) := ((bcell (b_call HBW.out HB1.out)).1 _ _ hlt).trans HCL.out
    have hbl : bb < w1.heap.size := by have := HBW.out.size; have := HB1.out.size; omega
    have n0 : (0 : Int) ≤ n := by omega
    have nb : (n : Int) + 1 ≤ 100 := by omega
    go_wp2_with fail
    go_ret3
    exact ⟨_, _, _, _, rfl, readI_below (readI_lit [z] (by simp) (by simp)) (b_alloc (Below.refl _ _) _), readI_lit [z, z] (by simp) (by simp), b_call HBW.out (b_alloc (b_alloc HB1.out _) _)⟩
set_option maxRecDepth 100000 in
set_option maxHeartbeats 2000000 in
theorem rdeal10 (p : PrV) (P : PrM) (v : FnV) (f : FnM) (x a b : Int) (sa : Option Addr) (sc : Nat) (st : List Int) (w : World) (h : ReadP w p P) (hs : SmallP P) (hf : DeepF w v f) (h1 : f.ps.length ≤ 10) (h2 : f.ls.length ≤ 10) (hst : ReadI w (.slice sa st.length sc) st) (hl : st.length ≤ 100) : Calls Try.prog 81 #[aggP p, aggF v, .agg #[.int .i64 10, .int .u64 x, .int .i64 a, .int .i64 b], .slice sa st.length sc] w (RetD w (ifNamed (decide (0 ≤ utO a)) ⟨[utO a], [ugO a], 0⟩)) := by
  obtain ⟨u, ⟨ga, gn, gc⟩, m, ⟨fa, fn, fc⟩⟩ := p
  obtain ⟨⟨pa, pn, pc⟩, ⟨la, ln, lc⟩, r, ⟨ca, cn, cc⟩⟩ := v
  have HR := Lib.hid h; have HF := Lib.hid hf; have HST := Lib.hid hst; have HS := Lib.hid hs
  have HL1 := Lib.hid h1; have HL2 := Lib.hid h2
  obtain ⟨hq0, hsc, hsc2⟩ := int_len (s := ⟨sa, st.length, sc⟩) hst
  clear hq0
  simp only at hsc hsc2
  clear h hf hst hs h1 h2
  unfold aggP aggF Sl.v
  simp only
  go_enter Try.func81, Try.ntmps81
  go_upto_region 1 with fail
  refine wp_named ?_
  intro W hW
  obtain ⟨q1, q2, q3, q4⟩ := boxes3 w #[.bool u, .slice ga gn gc, .int .i64 m, .slice fa fn fc] #[.slice pa pn pc, .slice la ln lc, .int .i64 r, .slice ca cn cc] #[.int .i64 10, .int .u64 x, .int .i64 a, .int .i64 b] 25 35 98
  rw [← hW] at q1 q2 q3 q4
  have HBW := Lib.hid q4
  have HK : Hid (∀ w', Below W.heap.size W w' → (w'.cell? ⟨w.heap.size, 0, none⟩ = some (.bool u) ∧ w'.cell? ⟨w.heap.size, 1, none⟩ = some (.slice ga gn gc) ∧ w'.cell? ⟨w.heap.size, 2, none⟩ = some (.int .i64 m) ∧ w'.cell? ⟨w.heap.size, 3, none⟩ = some (.slice fa fn fc)) ∧ (w'.cell? ⟨w.heap.size + 1, 0, none⟩ = some (.slice pa pn pc) ∧ w'.cell? ⟨w.heap.size + 1, 1, none⟩ = some (.slice la ln lc) ∧ w'.cell? ⟨w.heap.size + 1, 2, none⟩ = some (.int .i64 r) ∧ w'.cell? ⟨w.heap.size + 1, 3, none⟩ = some (.slice ca cn cc)) ∧ (w'.cell? ⟨w.heap.size + 2, 0, none⟩ = some (.int .i64 10) ∧ w'.cell? ⟨w.heap.size + 2, 1, none⟩ = some (.int .u64 x) ∧ w'.cell? ⟨w.heap.size + 2, 2, none⟩ = some (.int .i64 a) ∧ w'.cell? ⟨w.heap.size + 2, 3, none⟩ = some (.int .i64 b) ∧ w.heap.size + 1 + 1 < w'.heap.size ∧ w.heap.size + 1 < w'.heap.size ∧ w.heap.size < w'.heap.size)) := Lib.hid (fun w' hb => by
    obtain ⟨y0, y1, y2, y3, _⟩ := blk4 (blk_below q1 hb)
    obtain ⟨z0, z1, z2, z3, _⟩ := blk4 (blk_below q2 hb)
    obtain ⟨x0, x1, x2, x3, _⟩ := blk4 (blk_below q3 hb)
    have hs1 := (blk_below q1 hb).1; have hs2 := (blk_below q2 hb).1; have hs3 := (blk_below q3 hb).1
    exact ⟨⟨y0, y1, y2, y3⟩, ⟨z0, z1, z2, z3⟩, x0, x1, x2, x3, hs3, hs2, hs1⟩)
  clear hW q1 q2 q3 q4
  obtain ⟨⟨y0, y1, y2, y3⟩, ⟨z0, z1, z2, z3⟩, x0, x1, x2, x3, s3, s2, s1⟩ := HK.out W (Below.refl _ _)
  go_wp2_with fail
  refine (rtable_any 10 (by decide) _).mono ?_
  rintro e w1 ⟨rfl, hb1⟩
  have HB1 := Lib.hid hb1
  clear y0 y1 y2 y3 z0 z1 z2 z3 x0 x1 x2 x3 s1 s2 s3 hb1
  obtain ⟨⟨y0, y1, y2, y3⟩, ⟨z0, z1, z2, z3⟩, x0, x1, x2, x3, s3, s2, s1⟩ := HK.out w1 HB1.out
  have HT2 := Lib.hid (utakes_any a)
  have HG2 := Lib.hid (ugives_any a)
  generalize utO a = z at *
  generalize ugO a = g at *
  go_wp2_with fail
  refine (HT2.out _).mono ?_
  rintro e w2 ⟨rfl, hb2⟩
  have HB2 := Lib.hid (b_call HB1.out hb2)
  clear hb2
  clear y0 y1 y2 y3 z0 z1 z2 z3 x0 x1 x2 x3 s1 s2 s3
  obtain ⟨⟨y0, y1, y2, y3⟩, ⟨z0, z1, z2, z3⟩, x0, x1, x2, x3, s3, s2, s1⟩ := HK.out w2 HB2.out
  by_cases hz : 0 ≤ z
  · have D : Hid (ifNamed (decide (0 ≤ z)) ⟨[z], [g], 0⟩ = ⟨[z], [g], 0⟩) := Lib.hid (by rw [decide_eq_true hz]; rfl)
    have hz3 : ¬ (z < 0) := by omega
    go_wp2_with fail
    refine (HG2.out _).mono ?_
    rintro e w4 ⟨rfl, hb4⟩
    have HB4 := Lib.hid (b_call (b_alloc HB2.out (.cells #[.int .i64 z] 3)) hb4)
    have HL4 : Hid (ReadI w4 (.slice (some ⟨w2.heap.size, 0, none⟩) 1 1) [z]) := Lib.hid (readI_below (readI_lit [z] rfl (by simp)) hb4)
    clear hb4
    go_wp2_with fail
    go_ret3
    show RetD w _ _ _
    rw [D.out]
    exact ⟨_, _, _, _, rfl, readI_below HL4.out (b_alloc (Below.refl _ _) _), readI_lit [g] (by simp) (by simp), b_call HBW.out (b_alloc HB4.out _)⟩
  · have D : Hid (ifNamed (decide (0 ≤ z)) ⟨[z], [g], 0⟩ = bad 5) := Lib.hid (by rw [decide_eq_false hz]; rfl)
    have hz2 : z < 0 := by omega
    clear hz
    go_wp2_with fail
    go_ret3
    show RetD w _ _ _
    rw [D.out]
    exact ⟨none, 0, none, 0, rfl, readI_nil _, readI_nil _, b_call HBW.out HB2.out⟩
set_option maxRecDepth 100000 in
set_option maxHeartbeats 2000000 in
theorem rdeal11 (p : PrV) (P : PrM) (v : FnV) (f : FnM) (x a b : Int) (sa : Option Addr) (sc : Nat) (st : List Int) (w : World) (h : ReadP w p P) (hs : SmallP P) (hf : DeepF w v f) (h1 : f.ps.length ≤ 10) (h2 : f.ls.length ≤ 10) (hst : ReadI w (.slice sa st.length sc) st) (hl : st.length ≤ 100) : Calls Try.prog 81 #[aggP p, aggF v, .agg #[.int .i64 11, .int .u64 x, .int .i64 a, .int .i64 b], .slice sa st.length sc] w (RetD w (ifNamed (decide (0 ≤ takesO a)) ⟨[takesO a, takesO a], [givesO a], 0⟩)) := by
  obtain ⟨u, ⟨ga, gn, gc⟩, m, ⟨fa, fn, fc⟩⟩ := p
  obtain ⟨⟨pa, pn, pc⟩, ⟨la, ln, lc⟩, r, ⟨ca, cn, cc⟩⟩ := v
  have HR := Lib.hid h; have HF := Lib.hid hf; have HST := Lib.hid hst; have HS := Lib.hid hs
  have HL1 := Lib.hid h1; have HL2 := Lib.hid h2
  obtain ⟨hq0, hsc, hsc2⟩ := int_len (s := ⟨sa, st.length, sc⟩) hst
  clear hq0
  simp only at hsc hsc2
  clear h hf hst hs h1 h2
  unfold aggP aggF Sl.v
  simp only
  go_enter Try.func81, Try.ntmps81
  go_upto_region 1 with fail
  refine wp_named ?_
  intro W hW
  obtain ⟨q1, q2, q3, q4⟩ := boxes3 w #[.bool u, .slice ga gn gc, .int .i64 m, .slice fa fn fc] #[.slice pa pn pc, .slice la ln lc, .int .i64 r, .slice ca cn cc] #[.int .i64 11, .int .u64 x, .int .i64 a, .int .i64 b] 25 35 98
  rw [← hW] at q1 q2 q3 q4
  have HBW := Lib.hid q4
  have HK : Hid (∀ w', Below W.heap.size W w' → (w'.cell? ⟨w.heap.size, 0, none⟩ = some (.bool u) ∧ w'.cell? ⟨w.heap.size, 1, none⟩ = some (.slice ga gn gc) ∧ w'.cell? ⟨w.heap.size, 2, none⟩ = some (.int .i64 m) ∧ w'.cell? ⟨w.heap.size, 3, none⟩ = some (.slice fa fn fc)) ∧ (w'.cell? ⟨w.heap.size + 1, 0, none⟩ = some (.slice pa pn pc) ∧ w'.cell? ⟨w.heap.size + 1, 1, none⟩ = some (.slice la ln lc) ∧ w'.cell? ⟨w.heap.size + 1, 2, none⟩ = some (.int .i64 r) ∧ w'.cell? ⟨w.heap.size + 1, 3, none⟩ = some (.slice ca cn cc)) ∧ (w'.cell? ⟨w.heap.size + 2, 0, none⟩ = some (.int .i64 11) ∧ w'.cell? ⟨w.heap.size + 2, 1, none⟩ = some (.int .u64 x) ∧ w'.cell? ⟨w.heap.size + 2, 2, none⟩ = some (.int .i64 a) ∧ w'.cell? ⟨w.heap.size + 2, 3, none⟩ = some (.int .i64 b) ∧ w.heap.size + 1 + 1 < w'.heap.size ∧ w.heap.size + 1 < w'.heap.size ∧ w.heap.size < w'.heap.size)) := Lib.hid (fun w' hb => by
    obtain ⟨y0, y1, y2, y3, _⟩ := blk4 (blk_below q1 hb)
    obtain ⟨z0, z1, z2, z3, _⟩ := blk4 (blk_below q2 hb)
    obtain ⟨x0, x1, x2, x3, _⟩ := blk4 (blk_below q3 hb)
    have hs1 := (blk_below q1 hb).1; have hs2 := (blk_below q2 hb).1; have hs3 := (blk_below q3 hb).1
    exact ⟨⟨y0, y1, y2, y3⟩, ⟨z0, z1, z2, z3⟩, x0, x1, x2, x3, hs3, hs2, hs1⟩)
  clear hW q1 q2 q3 q4
  obtain ⟨⟨y0, y1, y2, y3⟩, ⟨z0, z1, z2, z3⟩, x0, x1, x2, x3, s3, s2, s1⟩ := HK.out W (Below.refl _ _)
  go_wp2_with fail
  refine (rtable_any 11 (by decide) _).mono ?_
  rintro e w1 ⟨rfl, hb1⟩
  have HB1 := Lib.hid hb1
  clear y0 y1 y2 y3 z0 z1 z2 z3 x0 x1 x2 x3 s1 s2 s3 hb1
  obtain ⟨⟨y0, y1, y2, y3⟩, ⟨z0, z1, z2, z3⟩, x0, x1, x2, x3, s3, s2, s1⟩ := HK.out w1 HB1.out
  have HT2 := Lib.hid (takes_any a)
  have HG2 := Lib.hid (gives_any a)
  generalize takesO a = z at *
  generalize givesO a = g at *
  go_wp2_with fail
  refine (HT2.out _).mono ?_
  rintro e w2 ⟨rfl, hw2⟩
  have HB2 : Hid (Below W.heap.size W w2) := by subst hw2; exact HB1
  clear hw2
  clear y0 y1 y2 y3 z0 z1 z2 z3 x0 x1 x2 x3 s1 s2 s3
  obtain ⟨⟨y0, y1, y2, y3⟩, ⟨z0, z1, z2, z3⟩, x0, x1, x2, x3, s3, s2, s1⟩ := HK.out w2 HB2.out
  by_cases hz : 0 ≤ z
  · have D : Hid (ifNamed (decide (0 ≤ z)) ⟨[z, z], [g], 0⟩ = ⟨[z, z], [g], 0⟩) := Lib.hid (by rw [decide_eq_true hz]; rfl)
    have hz3 : ¬ (z < 0) := by omega
    go_wp2_with fail
    refine (HG2.out _).mono ?_
    rintro e w4 ⟨rfl, hw4⟩
    subst hw4
    go_wp2_with fail
    go_ret3
    show RetD w _ _ _
    rw [D.out]
    exact ⟨_, _, _, _, rfl, readI_below (readI_lit [z, z] (by simp) (by simp)) (b_alloc (Below.refl _ _) _), readI_lit [g] (by simp) (by simp), b_call HBW.out (b_alloc (b_alloc HB2.out _) _)⟩
  · have D : Hid (ifNamed (decide (0 ≤ z)) ⟨[z, z], [g], 0⟩ = bad 5) := Lib.hid (by rw [decide_eq_false hz]; rfl)
    have hz2 : z < 0 := by omega
    clear hz
    go_wp2_with fail
    go_ret3
    show RetD w _ _ _
    rw [D.out]
    exact ⟨none, 0, none, 0, rfl, readI_nil _, readI_nil _, b_call HBW.out HB2.out⟩
set_option maxRecDepth 100000 in
set_option maxHeartbeats 2000000 in
theorem rdeal14 (p : PrV) (P : PrM) (v : FnV) (f : FnM) (x a b : Int) (sa : Option Addr) (sc : Nat) (st : List Int) (w : World) (h : ReadP w p P) (hs : SmallP P) (hf : DeepF w v f) (h1 : f.ps.length ≤ 10) (h2 : f.ls.length ≤ 10) (hst : ReadI w (.slice sa st.length sc) st) (hl : st.length ≤ 100) (ha : 0 ≤ a) : Calls Try.prog 81 #[aggP p, aggF v, .agg #[.int .i64 14, .int .u64 x, .int .i64 a, .int .i64 b], .slice sa st.length sc] w (RetD w (ifNamed (inFs P a) ⟨(fnAtM P a).ps, [(fnAtM P a).r], 0⟩)) := by
  obtain ⟨D, hD⟩ : ∃ D, D = ifNamed (inFs P a) ⟨(fnAtM P a).ps, [(fnAtM P a).r], 0⟩ := ⟨_, rfl⟩
  have HD := Lib.hid hD
  rw [← hD]
  clear hD
  obtain ⟨u, ⟨ga, gn, gc⟩, m, ⟨fa, fn, fc⟩⟩ := p
  obtain ⟨⟨pa, pn, pc⟩, ⟨la, ln, lc⟩, r, ⟨ca, cn, cc⟩⟩ := v
  have HR := Lib.hid h; have HF := Lib.hid hf; have HST := Lib.hid hst; have HS := Lib.hid hs
  have HL1 := Lib.hid h1; have HL2 := Lib.hid h2
  obtain ⟨hq0, hsc, hsc2⟩ := int_len (s := ⟨sa, st.length, sc⟩) hst
  clear hq0
  simp only at hsc hsc2
  clear h hf hst hs h1 h2
  unfold aggP aggF Sl.v
  simp only
  go_enter Try.func81, Try.ntmps81
  go_upto_region 1 with fail
  refine wp_named ?_
  intro W hW
  obtain ⟨q1, q2, q3, q4⟩ := boxes3 w #[.bool u, .slice ga gn gc, .int .i64 m, .slice fa fn fc] #[.slice pa pn pc, .slice la ln lc, .int .i64 r, .slice ca cn cc] #[.int .i64 14, .int .u64 x, .int .i64 a, .int .i64 b] 25 35 98
  rw [← hW] at q1 q2 q3 q4
  have HBW := Lib.hid q4
  have HK : Hid (∀ w', Below W.heap.size W w' → (w'.cell? ⟨w.heap.size, 0, none⟩ = some (.bool u) ∧ w'.cell? ⟨w.heap.size, 1, none⟩ = some (.slice ga gn gc) ∧ w'.cell? ⟨w.heap.size, 2, none⟩ = some (.int .i64 m) ∧ w'.cell? ⟨w.heap.size, 3, none⟩ = some (.slice fa fn fc)) ∧ (w'.cell? ⟨w.heap.size + 1, 0, none⟩ = some (.slice pa pn pc) ∧ w'.cell? ⟨w.heap.size + 1, 1, none⟩ = some (.slice la ln lc) ∧ w'.cell? ⟨w.heap.size + 1, 2, none⟩ = some (.int .i64 r) ∧ w'.cell? ⟨w.heap.size + 1, 3, none⟩ = some (.slice ca cn cc)) ∧ (w'.cell? ⟨w.heap.size + 2, 0, none⟩ = some (.int .i64 14) ∧ w'.cell? ⟨w.heap.size + 2, 1, none⟩ = some (.int .u64 x) ∧ w'.cell? ⟨w.heap.size + 2, 2, none⟩ = some (.int .i64 a) ∧ w'.cell? ⟨w.heap.size + 2, 3, none⟩ = some (.int .i64 b) ∧ w.heap.size + 1 + 1 < w'.heap.size ∧ w.heap.size + 1 < w'.heap.size ∧ w.heap.size < w'.heap.size)) := Lib.hid (fun w' hb => by
    obtain ⟨y0, y1, y2, y3, _⟩ := blk4 (blk_below q1 hb)
    obtain ⟨z0, z1, z2, z3, _⟩ := blk4 (blk_below q2 hb)
    obtain ⟨x0, x1, x2, x3, _⟩ := blk4 (blk_below q3 hb)
    have hs1 := (blk_below q1 hb).1; have hs2 := (blk_below q2 hb).1; have hs3 := (blk_below q3 hb).1
    exact ⟨⟨y0, y1, y2, y3⟩, ⟨z0, z1, z2, z3⟩, x0, x1, x2, x3, hs3, hs2, hs1⟩)
  clear hW q1 q2 q3 q4
  obtain ⟨⟨y0, y1, y2, y3⟩, ⟨z0, z1, z2, z3⟩, x0, x1, x2, x3, s3, s2, s1⟩ := HK.out W (Below.refl _ _)
  go_wp2_with fail
  refine (rtable_any 14 (by decide) _).mono ?_
  rintro e w1 ⟨rfl, hb1⟩
  have HB1 := Lib.hid hb1
  clear y0 y1 y2 y3 z0 z1 z2 z3 x0 x1 x2 x3 s1 s2 s3 hb1
  obtain ⟨⟨y0, y1, y2, y3⟩, ⟨z0, z1, z2, z3⟩, x0, x1, x2, x3, s3, s2, s1⟩ := HK.out w1 HB1.out
  go_wp2_with fail
  refine (rnamed14 ⟨u, ⟨ga, gn, gc⟩, m, ⟨fa, fn, fc⟩⟩ P x a b _ (readP_below HR.out (b_call HBW.out HB1.out)) HS.out ha).mono ?_
  rw [← HD.out]
  rintro e w2 ⟨a8, c8, a9, c9, rfl, hr8, hr9, hb2⟩
  have HR8 := Lib.hid hr8; have HR9 := Lib.hid hr9; have HB2 := Lib.hid (b_call HB1.out hb2)
  clear hr8 hr9 hb2
  go_wp2_with fail
  go_ret3
  exact ⟨a8, c8, a9, c9, rfl, HR8.out, HR9.out, b_call HBW.out HB2.out⟩
set_option maxRecDepth 100000 in
set_option maxHeartbeats 2000000 in
theorem rdeal28 (p : PrV) (P : PrM) (v : FnV) (f : FnM) (x a b : Int) (sa : Option Addr) (sc : Nat) (st : List Int) (w : World) (h : ReadP w p P) (hs : SmallP P) (hf : DeepF w v f) (h1 : f.ps.length ≤ 10) (h2 : f.ls.length ≤ 10) (hst : ReadI w (.slice sa st.length sc) st) (hl : st.length ≤ 100) (ha : 0 ≤ a) : Calls Try.prog 81 #[aggP p, aggF v, .agg #[.int .i64 28, .int .u64 x, .int .i64 a, .int .i64 b], .slice sa st.length sc] w (RetD w (ifNamed (inFs P a) (if (fnAtM P a).ps = [0] ∧ (fnAtM P a).r = 0 then ⟨[0], [0], 0⟩ else bad 7))) := by
  obtain ⟨D, hD⟩ : ∃ D, D = ifNamed (inFs P a) (if (fnAtM P a).ps = [0] ∧ (fnAtM P a).r = 0 then ⟨[0], [0], 0⟩ else bad 7) := ⟨_, rfl⟩
  have HD := Lib.hid hD
  rw [← hD]
  clear hD
  obtain ⟨u, ⟨ga, gn, gc⟩, m, ⟨fa, fn, fc⟩⟩ := p
  obtain ⟨⟨pa, pn, pc⟩, ⟨la, ln, lc⟩, r, ⟨ca, cn, cc⟩⟩ := v
  have HR := Lib.hid h; have HF := Lib.hid hf; have HST := Lib.hid hst; have HS := Lib.hid hs
  have HL1 := Lib.hid h1; have HL2 := Lib.hid h2
  obtain ⟨hq0, hsc, hsc2⟩ := int_len (s := ⟨sa, st.length, sc⟩) hst
  clear hq0
  simp only at hsc hsc2
  clear h hf hst hs h1 h2
  unfold aggP aggF Sl.v
  simp only
  go_enter Try.func81, Try.ntmps81
  go_upto_region 1 with fail
  refine wp_named ?_
  intro W hW
  obtain ⟨q1, q2, q3, q4⟩ := boxes3 w #[.bool u, .slice ga gn gc, .int .i64 m, .slice fa fn fc] #[.slice pa pn pc, .slice la ln lc, .int .i64 r, .slice ca cn cc] #[.int .i64 28, .int .u64 x, .int .i64 a, .int .i64 b] 25 35 98
  rw [← hW] at q1 q2 q3 q4
  have HBW := Lib.hid q4
  have HK : Hid (∀ w', Below W.heap.size W w' → (w'.cell? ⟨w.heap.size, 0, none⟩ = some (.bool u) ∧ w'.cell? ⟨w.heap.size, 1, none⟩ = some (.slice ga gn gc) ∧ w'.cell? ⟨w.heap.size, 2, none⟩ = some (.int .i64 m) ∧ w'.cell? ⟨w.heap.size, 3, none⟩ = some (.slice fa fn fc)) ∧ (w'.cell? ⟨w.heap.size + 1, 0, none⟩ = some (.slice pa pn pc) ∧ w'.cell? ⟨w.heap.size + 1, 1, none⟩ = some (.slice la ln lc) ∧ w'.cell? ⟨w.heap.size + 1, 2, none⟩ = some (.int .i64 r) ∧ w'.cell? ⟨w.heap.size + 1, 3, none⟩ = some (.slice ca cn cc)) ∧ (w'.cell? ⟨w.heap.size + 2, 0, none⟩ = some (.int .i64 28) ∧ w'.cell? ⟨w.heap.size + 2, 1, none⟩ = some (.int .u64 x) ∧ w'.cell? ⟨w.heap.size + 2, 2, none⟩ = some (.int .i64 a) ∧ w'.cell? ⟨w.heap.size + 2, 3, none⟩ = some (.int .i64 b) ∧ w.heap.size + 1 + 1 < w'.heap.size ∧ w.heap.size + 1 < w'.heap.size ∧ w.heap.size < w'.heap.size)) := Lib.hid (fun w' hb => by
    obtain ⟨y0, y1, y2, y3, _⟩ := blk4 (blk_below q1 hb)
    obtain ⟨z0, z1, z2, z3, _⟩ := blk4 (blk_below q2 hb)
    obtain ⟨x0, x1, x2, x3, _⟩ := blk4 (blk_below q3 hb)
    have hs1 := (blk_below q1 hb).1; have hs2 := (blk_below q2 hb).1; have hs3 := (blk_below q3 hb).1
    exact ⟨⟨y0, y1, y2, y3⟩, ⟨z0, z1, z2, z3⟩, x0, x1, x2, x3, hs3, hs2, hs1⟩)
  clear hW q1 q2 q3 q4
  obtain ⟨⟨y0, y1, y2, y3⟩, ⟨z0, z1, z2, z3⟩, x0, x1, x2, x3, s3, s2, s1⟩ := HK.out W (Below.refl _ _)
  go_wp2_with fail
  refine (rtable_any 28 (by decide) _).mono ?_
  rintro e w1 ⟨rfl, hb1⟩
  have HB1 := Lib.hid hb1
  clear y0 y1 y2 y3 z0 z1 z2 z3 x0 x1 x2 x3 s1 s2 s3 hb1
  obtain ⟨⟨y0, y1, y2, y3⟩, ⟨z0, z1, z2, z3⟩, x0, x1, x2, x3, s3, s2, s1⟩ := HK.out w1 HB1.out
  go_wp2_with fail
  refine (rnamed28 ⟨u, ⟨ga, gn, gc⟩, m, ⟨fa, fn, fc⟩⟩ P x a b _ (readP_below HR.out (b_call HBW.out HB1.out)) HS.out ha).mono ?_
  rw [← HD.out]
  rintro e w2 ⟨a8, c8, a9, c9, rfl, hr8, hr9, hb2⟩
  have HR8 := Lib.hid hr8; have HR9 := Lib.hid hr9; have HB2 := Lib.hid (b_call HB1.out hb2)
  clear hr8 hr9 hb2
  go_wp2_with fail
  go_ret3
  exact ⟨a8, c8, a9, c9, rfl, HR8.out, HR9.out, b_call HBW.out HB2.out⟩
end
section
open Go.RowKit
set_option linter.unusedVariables false
set_option linter.unusedSimpArgs false
attribute [local go_sem] over_cell over_frozen
set_option maxRecDepth 100000 in
set_option maxHeartbeats 2000000 in
theorem rdeal15 (p : PrV) (P : PrM) (v : FnV) (f : FnM) (x a b : Int) (sa : Option Addr) (sc : Nat) (st : List Int) (w : World) (h : ReadP w p P) (hs : SmallP P) (hf : DeepF w v f) (h1 : f.ps.length ≤ 10) (h2 : f.ls.length ≤ 10) (hst : ReadI w (.slice sa st.length sc) st) (hl : st.length ≤ 100) : Calls Try.prog 81 #[aggP p, aggF v, .agg #[.int .i64 15, .int .u64 x, .int .i64 a, .int .i64 b], .slice sa st.length sc] w (RetD w (⟨[f.r], [], 0⟩)) := by
  have hr := hf.r
  rw [← hr]
  clear hr
  obtain ⟨u, ⟨ga, gn, gc⟩, m, ⟨fa, fn, fc⟩⟩ := p
  obtain ⟨⟨pa, pn, pc⟩, ⟨la, ln, lc⟩, r, ⟨ca, cn, cc⟩⟩ := v
  have HR := Lib.hid h; have HF := Lib.hid hf; have HST := Lib.hid hst; have HS := Lib.hid hs
  have HL1 := Lib.hid h1; have HL2 := Lib.hid h2
  obtain ⟨hq0, hsc, hsc2⟩ := int_len (s := ⟨sa, st.length, sc⟩) hst
  clear hq0
  simp only at hsc hsc2
  clear h hf hst hs h1 h2
  unfold aggP aggF Sl.v
  simp only
  go_enter Try.func81, Try.ntmps81
  go_upto_region 1 with fail
  refine wp_named ?_
  intro W hW
  obtain ⟨q1, q2, q3, q4⟩ := boxes3 w #[.bool u, .slice ga gn gc, .int .i64 m, .slice fa fn fc] #[.slice pa pn pc, .slice la ln lc, .int .i64 r, .slice ca cn cc] #[.int .i64 15, .int .u64 x, .int .i64 a, .int .i64 b] 25 35 98
  rw [← hW] at q1 q2 q3 q4
  have HBW := Lib.hid q4
  have HK : Hid (∀ w', Below W.heap.size W w' → (w'.cell? ⟨w.heap.size, 0, none⟩ = some (.bool u) ∧ w'.cell? ⟨w.heap.size, 1, none⟩ = some (.slice ga gn gc) ∧ w'.cell? ⟨w.heap.size, 2, none⟩ = some (.int .i64 m) ∧ w'.cell? ⟨w.heap.size, 3, none⟩ = some (.slice fa fn fc)) ∧ (w'.cell? ⟨w.heap.size + 1, 0, none⟩ = some (.slice pa pn pc) ∧ w'.cell? ⟨w.heap.size + 1, 1, none⟩ = some (.slice la ln lc) ∧ w'.cell? ⟨w.heap.size + 1, 2, none⟩ = some (.int .i64 r) ∧ w'.cell? ⟨w.heap.size + 1, 3, none⟩ = some (.slice ca cn cc)) ∧ (w'.cell? ⟨w.heap.size + 2, 0, none⟩ = some (.int .i64 15) ∧ w'.cell? ⟨w.heap.size + 2, 1, none⟩ = some (.int .u64 x) ∧ w'.cell? ⟨w.heap.size + 2, 2, none⟩ = some (.int .i64 a) ∧ w'.cell? ⟨w.heap.size + 2, 3, none⟩ = some (.int .i64 b) ∧ w.heap.size + 1 + 1 < w'.heap.size ∧ w.heap.size + 1 < w'.heap.size ∧ w.heap.size < w'.heap.size)) := Lib.hid (fun w' hb => by
    obtain ⟨y0, y1, y2, y3, _⟩ := blk4 (blk_below q1 hb)
    obtain ⟨z0, z1, z2, z3, _⟩ := blk4 (blk_below q2 hb)
    obtain ⟨x0, x1, x2, x3, _⟩ := blk4 (blk_below q3 hb)
    have hs1 := (blk_below q1 hb).1; have hs2 := (blk_below q2 hb).1; have hs3 := (blk_below q3 hb).1
    exact ⟨⟨y0, y1, y2, y3⟩, ⟨z0, z1, z2, z3⟩, x0, x1, x2, x3, hs3, hs2, hs1⟩)
  clear hW q1 q2 q3 q4
  obtain ⟨⟨y0, y1, y2, y3⟩, ⟨z0, z1, z2, z3⟩, x0, x1, x2, x3, s3, s2, s1⟩ := HK.out W (Below.refl _ _)
  go_wp2_with fail
  refine (rtable_any 15 (by decide) _).mono ?_
  rintro e w1 ⟨rfl, hb1⟩
  have HB1 := Lib.hid hb1
  clear y0 y1 y2 y3 z0 z1 z2 z3 x0 x1 x2 x3 s1 s2 s3 hb1
  obtain ⟨⟨y0, y1, y2, y3⟩, ⟨z0, z1, z2, z3⟩, x0, x1, x2, x3, s3, s2, s1⟩ := HK.out w1 HB1.out
  go_wp2_with fail
  go_ret3
  exact ⟨_, _, none, 0, rfl, readI_lit [r] (by simp) (by simp), readI_nil _, b_call HBW.out (b_alloc HB1.out _)⟩
set_option maxRecDepth 100000 in
set_option maxHeartbeats 2000000 in
theorem rdeal17 (p : PrV) (P : PrM) (v : FnV) (f : FnM) (x a b : Int) (sa : Option Addr) (sc : Nat) (st : List Int) (w : World) (h : ReadP w p P) (hs : SmallP P) (hf : DeepF w v f) (h1 : f.ps.length ≤ 10) (h2 : f.ls.length ≤ 10) (hst : ReadI w (.slice sa st.length sc) st) (hl : st.length ≤ 100) : Calls Try.prog 81 #[aggP p, aggF v, .agg #[.int .i64 17, .int .u64 x, .int .i64 a, .int .i64 b], .slice sa st.length sc] w (RetD w (ifNamed (okS a b) ⟨[], [2], 0⟩)) := by
  have hq := rshp_any a b
  obtain ⟨u, ⟨ga, gn, gc⟩, m, ⟨fa, fn, fc⟩⟩ := p
  obtain ⟨⟨pa, pn, pc⟩, ⟨la, ln, lc⟩, r, ⟨ca, cn, cc⟩⟩ := v
  have HR := Lib.hid h; have HF := Lib.hid hf; have HST := Lib.hid hst; have HS := Lib.hid hs
  have HL1 := Lib.hid h1; have HL2 := Lib.hid h2
  obtain ⟨hq0, hsc, hsc2⟩ := int_len (s := ⟨sa, st.length, sc⟩) hst
  clear hq0
  simp only at hsc hsc2
  clear h hf hst hs h1 h2
  unfold aggP aggF Sl.v
  simp only
  go_enter Try.func81, Try.ntmps81
  go_upto_region 1 with fail
  refine wp_named ?_
  intro W hW
  obtain ⟨q1, q2, q3, q4⟩ := boxes3 w #[.bool u, .slice ga gn gc, .int .i64 m, .slice fa fn fc] #[.slice pa pn pc, .slice la ln lc, .int .i64 r, .slice ca cn cc] #[.int .i64 17, .int .u64 x, .int .i64 a, .int .i64 b] 25 35 98
  rw [← hW] at q1 q2 q3 q4
  have HBW := Lib.hid q4
  have HK : Hid (∀ w', Below W.heap.size W w' → (w'.cell? ⟨w.heap.size, 0, none⟩ = some (.bool u) ∧ w'.cell? ⟨w.heap.size, 1, none⟩ = some (.slice ga gn gc) ∧ w'.cell? ⟨w.heap.size, 2, none⟩ = some (.int .i64 m) ∧ w'.cell? ⟨w.heap.size, 3, none⟩ = some (.slice fa fn fc)) ∧ (w'.cell? ⟨w.heap.size + 1, 0, none⟩ = some (.slice pa pn pc) ∧ w'.cell? ⟨w.heap.size + 1, 1, none⟩ = some (.slice la ln lc) ∧ w'.cell? ⟨w.heap.size + 1, 2, none⟩ = some (.int .i64 r) ∧ w'.cell? ⟨w.heap.size + 1, 3, none⟩ = some (.slice ca cn cc)) ∧ (w'.cell? ⟨w.heap.size + 2, 0, none⟩ = some (.int .i64 17) ∧ w'.cell? ⟨w.heap.size + 2, 1, none⟩ = some (.int .u64 x) ∧ w'.cell? ⟨w.heap.size + 2, 2, none⟩ = some (.int .i64 a) ∧ w'.cell? ⟨w.heap.size + 2, 3, none⟩ = some (.int .i64 b) ∧ w.heap.size + 1 + 1 < w'.heap.size ∧ w.heap.size + 1 < w'.heap.size ∧ w.heap.size < w'.heap.size)) := Lib.hid (fun w' hb => by
    obtain ⟨y0, y1, y2, y3, _⟩ := blk4 (blk_below q1 hb)
    obtain ⟨z0, z1, z2, z3, _⟩ := blk4 (blk_below q2 hb)
    obtain ⟨x0, x1, x2, x3, _⟩ := blk4 (blk_below q3 hb)
    have hs1 := (blk_below q1 hb).1; have hs2 := (blk_below q2 hb).1; have hs3 := (blk_below q3 hb).1
    exact ⟨⟨y0, y1, y2, y3⟩, ⟨z0, z1, z2, z3⟩, x0, x1, x2, x3, hs3, hs2, hs1⟩)
  clear hW q1 q2 q3 q4
  obtain ⟨⟨y0, y1, y2, y3⟩, ⟨z0, z1, z2, z3⟩, x0, x1, x2, x3, s3, s2, s1⟩ := HK.out W (Below.refl _ _)
  go_wp2_with fail
  refine (rtable_any 17 (by decide) _).mono ?_
  rintro e w1 ⟨rfl, hb1⟩
  have HB1 := Lib.hid hb1
  clear y0 y1 y2 y3 z0 z1 z2 z3 x0 x1 x2 x3 s1 s2 s3 hb1
  obtain ⟨⟨y0, y1, y2, y3⟩, ⟨z0, z1, z2, z3⟩, x0, x1, x2, x3, s3, s2, s1⟩ := HK.out w1 HB1.out
  go_wp2_with fail
  refine (hq _).mono ?_
  rintro e w2 ⟨rfl, hb2⟩
  have HB2 := Lib.hid (b_call HB1.out hb2)
  clear hb2 hq
  clear y0 y1 y2 y3 z0 z1 z2 z3 x0 x1 x2 x3 s1 s2 s3
  obtain ⟨⟨y0, y1, y2, y3⟩, ⟨z0, z1, z2, z3⟩, x0, x1, x2, x3, s3, s2, s1⟩ := HK.out w2 HB2.out
  by_cases hok : 0 ≤ a ∧ 0 ≤ b ∧ a + b ≤ 15
  · have D : Hid (ifNamed (okS a b) ⟨[], [2], 0⟩ = ⟨[], [2], 0⟩) := Lib.hid (by rw [(okS_yes hok).1]; rfl)
    rw [(okS_yes hok).2]
    have h9 : ((8 + 8 * a + 8 * b) == 0) = false := by rw [beq_eq_false_iff_ne]; omega
    clear hok
    go_wp2_with fail
    refine (rkindsA 17 (by decide) _).mono ?_
    rintro e w8 ⟨a8, c8, rfl, hr8, hb8⟩
    have HR8 := Lib.hid hr8
    have HB8 := Lib.hid (b_call HB2.out hb8)
    clear hr8 hb8
    go_wp2_with fail
    refine (rkindsB 17 (by decide) _).mono ?_
    rintro e w9 ⟨a9, c9, rfl, hr9, hb9⟩
    have HR9 := Lib.hid hr9
    have HB9 := Lib.hid (b_call HB8.out hb9)
    have HR89 := Lib.hid (readI_below HR8.out hb9)
    clear hr9 hb9
    go_wp2_with fail
    go_ret3
    show RetD w _ _ _
    rw [D.out]
    exact ⟨a8, c8, a9, c9, rfl, HR89.out, HR9.out, b_call HBW.out HB9.out⟩
  · have D : Hid (ifNamed (okS a b) ⟨[], [2], 0⟩ = bad 5) := Lib.hid (by rw [(okS_no hok).1]; rfl)
    rw [(okS_no hok).2]
    clear hok
    go_wp2_with fail
    go_ret3
    show RetD w _ _ _
    rw [D.out]
    exact ⟨none, 0, none, 0, rfl, readI_nil _, readI_nil _, b_call HBW.out HB2.out⟩
set_option maxRecDepth 100000 in
set_option maxHeartbeats 2000000 in
theorem rdeal31 (p : PrV) (P : PrM) (v : FnV) (f : FnM) (x a b : Int) (sa : Option Addr) (sc : Nat) (st : List Int) (w : World) (h : ReadP w p P) (hs : SmallP P) (hf : DeepF w v f) (h1 : f.ps.length ≤ 10) (h2 : f.ls.length ≤ 10) (hst : ReadI w (.slice sa st.length sc) st) (hl : st.length ≤ 100) : Calls Try.prog 81 #[aggP p, aggF v, .agg #[.int .i64 31, .int .u64 x, .int .i64 a, .int .i64 b], .slice sa st.length sc] w (RetD w (ifNamed (decide (a < P.m)) ⟨[], [], 0⟩)) := by
  have hm := h.m
  rw [← hm]
  clear hm
  obtain ⟨u, ⟨ga, gn, gc⟩, m, ⟨fa, fn, fc⟩⟩ := p
  obtain ⟨⟨pa, pn, pc⟩, ⟨la, ln, lc⟩, r, ⟨ca, cn, cc⟩⟩ := v
  have HR := Lib.hid h; have HF := Lib.hid hf; have HST := Lib.hid hst; have HS := Lib.hid hs
  have HL1 := Lib.hid h1; have HL2 := Lib.hid h2
  obtain ⟨hq0, hsc, hsc2⟩ := int_len (s := ⟨sa, st.length, sc⟩) hst
  clear hq0
  simp only at hsc hsc2
  clear h hf hst hs h1 h2
  unfold aggP aggF Sl.v
  simp only
  go_enter Try.func81, Try.ntmps81
  go_upto_region 1 with fail
  refine wp_named ?_
  intro W hW
  obtain ⟨q1, q2, q3, q4⟩ := boxes3 w #[.bool u, .slice ga gn gc, .int .i64 m, .slice fa fn fc] #[.slice pa pn pc, .slice la ln lc, .int .i64 r, .slice ca cn cc] #[.int .i64 31, .int .u64 x, .int .i64 a, .int .i64 b] 25 35 98
  rw [← hW] at q1 q2 q3 q4
  have HBW := Lib.hid q4
  have HK : Hid (∀ w', Below W.heap.size W w' → (w'.cell? ⟨w.heap.size, 0, none⟩ = some (.bool u) ∧ w'.cell? ⟨w.heap.size, 1, none⟩ = some (.slice ga gn gc) ∧ w'.cell? ⟨w.heap.size, 2, none⟩ = some (.int .i64 m) ∧ w'.cell? ⟨w.heap.size, 3, none⟩ = some (.slice fa fn fc)) ∧ (w'.cell? ⟨w.heap.size + 1, 0, none⟩ = some (.slice pa pn pc) ∧ w'.cell? ⟨w.heap.size + 1, 1, none⟩ = some (.slice la ln lc) ∧ w'.cell? ⟨w.heap.size + 1, 2, none⟩ = some (.int .i64 r) ∧ w'.cell? ⟨w.heap.size + 1, 3, none⟩ = some (.slice ca cn cc)) ∧ (w'.cell? ⟨w.heap.size + 2, 0, none⟩ = some (.int .i64 31) ∧ w'.cell? ⟨w.heap.size + 2, 1, none⟩ = some (.int .u64 x) ∧ w'.cell? ⟨w.heap.size + 2, 2, none⟩ = some (.int .i64 a) ∧ w'.cell? ⟨w.heap.size + 2, 3, none⟩ = some (.int .i64 b) ∧ w.heap.size + 1 + 1 < w'.heap.size ∧ w.heap.size + 1 < w'.heap.size ∧ w.heap.size < w'.heap.size)) := Lib.hid (fun w' hb => by
    obtain ⟨y0, y1, y2, y3, _⟩ := blk4 (blk_below q1 hb)
    obtain ⟨z0, z1, z2, z3, _⟩ := blk4 (blk_below q2 hb)
    obtain ⟨x0, x1, x2, x3, _⟩ := blk4 (blk_below q3 hb)
    have hs1 := (blk_below q1 hb).1; have hs2 := (blk_below q2 hb).1; have hs3 := (blk_below q3 hb).1
    exact ⟨⟨y0, y1, y2, y3⟩, ⟨z0, z1, z2, z3⟩, x0, x1, x2, x3, hs3, hs2, hs1⟩)
  clear hW q1 q2 q3 q4
  obtain ⟨⟨y0, y1, y2, y3⟩, ⟨z0, z1, z2, z3⟩, x0, x1, x2, x3, s3, s2, s1⟩ := HK.out W (Below.refl _ _)
  go_wp2_with fail
  refine (rtable_any 31 (by decide) _).mono ?_
  rintro e w1 ⟨rfl, hb1⟩
  have HB1 := Lib.hid hb1
  clear y0 y1 y2 y3 z0 z1 z2 z3 x0 x1 x2 x3 s1 s2 s3 hb1
  obtain ⟨⟨y0, y1, y2, y3⟩, ⟨z0, z1, z2, z3⟩, x0, x1, x2, x3, s3, s2, s1⟩ := HK.out w1 HB1.out
  by_cases hlt : a < m
  · have D : Hid (ifNamed (decide (a < m)) ⟨[], [], 0⟩ = ⟨[], [], 0⟩) := Lib.hid (by rw [decide_eq_true hlt]; rfl)
    go_wp2_with fail
    refine (rkindsA 31 (by decide) _).mono ?_
    rintro e w8 ⟨a8, c8, rfl, hr8, hb8⟩
    have HR8 := Lib.hid hr8
    have HB8 := Lib.hid (b_call HB1.out hb8)
    clear hr8 hb8
    go_wp2_with fail
    refine (rkindsB 31 (by decide) _).mono ?_
    rintro e w9 ⟨a9, c9, rfl, hr9, hb9⟩
    have HR9 := Lib.hid hr9
    have HB9 := Lib.hid (b_call HB8.out hb9)
    have HR89 := Lib.hid (readI_below HR8.out hb9)
    clear hr9 hb9
    go_wp2_with fail
    go_ret3
    show RetD w _ _ _
    rw [D.out]
    exact ⟨a8, c8, a9, c9, rfl, HR89.out, HR9.out, b_call HBW.out HB9.out⟩
  · have D : Hid (ifNamed (decide (a < m)) ⟨[], [], 0⟩ = bad 5) := Lib.hid (by rw [decide_eq_false hlt]; rfl)
    go_wp2_with fail
    go_ret3
    show RetD w _ _ _
    rw [D.out]
    exact ⟨none, 0, none, 0, rfl, readI_nil _, readI_nil _, b_call HBW.out HB1.out⟩
set_option maxRecDepth 100000 in
set_option maxHeartbeats 2000000 in
theorem rdeal32 (p : PrV) (P : PrM) (v : FnV) (f : FnM) (x a b : Int) (sa : Option Addr) (sc : Nat) (st : List Int) (w : World) (h : ReadP w p P) (hs : SmallP P) (hf : DeepF w v f) (h1 : f.ps.length ≤ 10) (h2 : f.ls.length ≤ 10) (hst : ReadI w (.slice sa st.length sc) st) (hl : st.length ≤ 100) : Calls Try.prog 81 #[aggP p, aggF v, .agg #[.int .i64 32, .int .u64 x, .int .i64 a, .int .i64 b], .slice sa st.length sc] w (RetD w (ifNamed (decide (a < P.m)) ⟨[], [], 0⟩)) := by
  have hm := h.m
  rw [← hm]
  clear hm
  obtain ⟨u, ⟨ga, gn, gc⟩, m, ⟨fa, fn, fc⟩⟩ := p
  obtain ⟨⟨pa, pn, pc⟩, ⟨la, ln, lc⟩, r, ⟨ca, cn, cc⟩⟩ := v
  have HR := Lib.hid h; have HF := Lib.hid hf; have HST := Lib.hid hst; have HS := Lib.hid hs
  have HL1 := Lib.hid h1; have HL2 := Lib.hid h2
  obtain ⟨hq0, hsc, hsc2⟩ := int_len (s := ⟨sa, st.length, sc⟩) hst
  clear hq0
  simp only at hsc hsc2
  clear h hf hst hs h1 h2
  unfold aggP aggF Sl.v
  simp only
  go_enter Try.func81, Try.ntmps81
  go_upto_region 1 with fail
  refine wp_named ?_
  intro W hW
  obtain ⟨q1, q2, q3, q4⟩ := boxes3 w #[.bool u, .slice ga gn gc, .int .i64 m, .slice fa fn fc] #[.slice pa pn pc, .slice la ln lc, .int .i64 r, .slice ca cn cc] #[.int .i64 32, .int .u64 x, .int .i64 a, .int .i64 b] 25 35 98
  rw [← hW] at q1 q2 q3 q4
  have HBW := Lib.hid q4
  have HK : Hid (∀ w', Below W.heap.size W w' → (w'.cell? ⟨w.heap.size, 0, none⟩ = some (.bool u) ∧ w'.cell? ⟨w.heap.size, 1, none⟩ = some (.slice ga gn gc) ∧ w'.cell? ⟨w.heap.size, 2, none⟩ = some (.int .i64 m) ∧ w'.cell? ⟨w.heap.size, 3, none⟩ = some (.slice fa fn fc)) ∧ (w'.cell? ⟨w.heap.size + 1, 0, none⟩ = some (.slice pa pn pc) ∧ w'.cell? ⟨w.heap.size + 1, 1, none⟩ = some (.slice la ln lc) ∧ w'.cell? ⟨w.heap.size + 1, 2, none⟩ = some (.int .i64 r) ∧ w'.cell? ⟨w.heap.size + 1, 3, none⟩ = some (.slice ca cn cc)) ∧ (w'.cell? ⟨w.heap.size + 2, 0, none⟩ = some (.int .i64 32) ∧ w'.cell? ⟨w.heap.size + 2, 1, none⟩ = some (.int .u64 x) ∧ w'.cell? ⟨w.heap.size + 2, 2, none⟩ = some (.int .i64 a) ∧ w'.cell? ⟨w.heap.size + 2, 3, none⟩ = some (.int .i64 b) ∧ w.heap.size + 1 + 1 < w'.heap.size ∧ w.heap.size + 1 < w'.heap.size ∧ w.heap.size < w'.heap.size)) := Lib.hid (fun w' hb => by
    obtain ⟨y0, y1, y2, y3, _⟩ := blk4 (blk_below q1 hb)
    obtain ⟨z0, z1, z2, z3, _⟩ := blk4 (blk_below q2 hb)
    obtain ⟨x0, x1, x2, x3, _⟩ := blk4 (blk_below q3 hb)
    have hs1 := (blk_below q1 hb).1; have hs2 := (blk_below q2 hb).1; have hs3 := (blk_below q3 hb).1
    exact ⟨⟨y0, y1, y2, y3⟩, ⟨z0, z1, z2, z3⟩, x0, x1, x2, x3, hs3, hs2, hs1⟩)
  clear hW q1 q2 q3 q4
  obtain ⟨⟨y0, y1, y2, y3⟩, ⟨z0, z1, z2, z3⟩, x0, x1, x2, x3, s3, s2, s1⟩ := HK.out W (Below.refl _ _)
  go_wp2_with fail
  refine (rtable_any 32 (by decide) _).mono ?_
  rintro e w1 ⟨rfl, hb1⟩
  have HB1 := Lib.hid hb1
  clear y0 y1 y2 y3 z0 z1 z2 z3 x0 x1 x2 x3 s1 s2 s3 hb1
  obtain ⟨⟨y0, y1, y2, y3⟩, ⟨z0, z1, z2, z3⟩, x0, x1, x2, x3, s3, s2, s1⟩ := HK.out w1 HB1.out
  by_cases hlt : a < m
  · have D : Hid (ifNamed (decide (a < m)) ⟨[], [], 0⟩ = ⟨[], [], 0⟩) := Lib.hid (by rw [decide_eq_true hlt]; rfl)
    go_wp2_with fail
    refine (rkindsA 32 (by decide) _).mono ?_
    rintro e w8 ⟨a8, c8, rfl, hr8, hb8⟩
    have HR8 := Lib.hid hr8
    have HB8 := Lib.hid (b_call HB1.out hb8)
    clear hr8 hb8
    go_wp2_with fail
    refine (rkindsB 32 (by decide) _).mono ?_
    rintro e w9 ⟨a9, c9, rfl, hr9, hb9⟩
    have HR9 := Lib.hid hr9
    have HB9 := Lib.hid (b_call HB8.out hb9)
    have HR89 := Lib.hid (readI_below HR8.out hb9)
    clear hr9 hb9
    go_wp2_with fail
    go_ret3
    show RetD w _ _ _
    rw [D.out]
    exact ⟨a8, c8, a9, c9, rfl, HR89.out, HR9.out, b_call HBW.out HB9.out⟩
  · have D : Hid (ifNamed (decide (a < m)) ⟨[], [], 0⟩ = bad 5) := Lib.hid (by rw [decide_eq_false hlt]; rfl)
    go_wp2_with fail
    go_ret3
    show RetD w _ _ _
    rw [D.out]
    exact ⟨none, 0, none, 0, rfl, readI_nil _, readI_nil _, b_call HBW.out HB1.out⟩
set_option maxRecDepth 100000 in
set_option maxHeartbeats 2000000 in
theorem rdeal36 (p : PrV) (P : PrM) (v : FnV) (f : FnM) (x a b : Int) (sa : Option Addr) (sc : Nat) (st : List Int) (w : World) (h : ReadP w p P) (hs : SmallP P) (hf : DeepF w v f) (h1 : f.ps.length ≤ 10) (h2 : f.ls.length ≤ 10) (hst : ReadI w (.slice sa st.length sc) st) (hl : st.length ≤ 100) : Calls Try.prog 81 #[aggP p, aggF v, .agg #[.int .i64 36, .int .u64 x, .int .i64 a, .int .i64 b], .slice sa st.length sc] w (RetD w (if P.u = true then ⟨[0], [3], 0⟩ else bad 8)) := by
  have hu := h.u
  rw [← hu]
  clear hu
  obtain ⟨D, hD⟩ : ∃ D, D = (if p.u = true then (⟨[0], [3], 0⟩ : Deal) else bad 8) := ⟨_, rfl⟩
  have HD := Lib.hid hD
  rw [← hD]
  clear hD
  obtain ⟨u, ⟨ga, gn, gc⟩, m, ⟨fa, fn, fc⟩⟩ := p
  obtain ⟨⟨pa, pn, pc⟩, ⟨la, ln, lc⟩, r, ⟨ca, cn, cc⟩⟩ := v
  have HR := Lib.hid h; have HF := Lib.hid hf; have HST := Lib.hid hst; have HS := Lib.hid hs
  have HL1 := Lib.hid h1; have HL2 := Lib.hid h2
  obtain ⟨hq0, hsc, hsc2⟩ := int_len (s := ⟨sa, st.length, sc⟩) hst
  clear hq0
  simp only at hsc hsc2
  clear h hf hst hs h1 h2
  unfold aggP aggF Sl.v
  simp only
  go_enter Try.func81, Try.ntmps81
  go_upto_region 1 with fail
  refine wp_named ?_
  intro W hW
  obtain ⟨q1, q2, q3, q4⟩ := boxes3 w #[.bool u, .slice ga gn gc, .int .i64 m, .slice fa fn fc] #[.slice pa pn pc, .slice la ln lc, .int .i64 r, .slice ca cn cc] #[.int .i64 36, .int .u64 x, .int .i64 a, .int .i64 b] 25 35 98
  rw [← hW] at q1 q2 q3 q4
  have HBW := Lib.hid q4
  have HK : Hid (∀ w', Below W.heap.size W w' → (w'.cell? ⟨w.heap.size, 0, none⟩ = some (.bool u) ∧ w'.cell? ⟨w.heap.size, 1, none⟩ = some (.slice ga gn gc) ∧ w'.cell? ⟨w.heap.size, 2, none⟩ = some (.int .i64 m) ∧ w'.cell? ⟨w.heap.size, 3, none⟩ = some (.slice fa fn fc)) ∧ (w'.cell? ⟨w.heap.size + 1, 0, none⟩ = some (.slice pa pn pc) ∧ w'.cell? ⟨w.heap.size + 1, 1, none⟩ = some (.slice la ln lc) ∧ w'.cell? ⟨w.heap.size + 1, 2, none⟩ = some (.int .i64 r) ∧ w'.cell? ⟨w.heap.size + 1, 3, none⟩ = some (.slice ca cn cc)) ∧ (w'.cell? ⟨w.heap.size + 2, 0, none⟩ = some (.int .i64 36) ∧ w'.cell? ⟨w.heap.size + 2, 1, none⟩ = some (.int .u64 x) ∧ w'.cell? ⟨w.heap.size + 2, 2, none⟩ = some (.int .i64 a) ∧ w'.cell? ⟨w.heap.size + 2, 3, none⟩ = some (.int .i64 b) ∧ w.heap.size + 1 + 1 < w'.heap.size ∧ w.heap.size + 1 < w'.heap.size ∧ w.heap.size < w'.heap.size)) := Lib.hid (fun w' hb => by
    obtain ⟨y0, y1, y2, y3, _⟩ := blk4 (blk_below q1 hb)
    obtain ⟨z0, z1, z2, z3, _⟩ := blk4 (blk_below q2 hb)
    obtain ⟨x0, x1, x2, x3, _⟩ := blk4 (blk_below q3 hb)
    have hs1 := (blk_below q1 hb).1; have hs2 := (blk_below q2 hb).1; have hs3 := (blk_below q3 hb).1
    exact ⟨⟨y0, y1, y2, y3⟩, ⟨z0, z1, z2, z3⟩, x0, x1, x2, x3, hs3, hs2, hs1⟩)
  clear hW q1 q2 q3 q4
  obtain ⟨⟨y0, y1, y2, y3⟩, ⟨z0, z1, z2, z3⟩, x0, x1, x2, x3, s3, s2, s1⟩ := HK.out W (Below.refl _ _)
  go_wp2_with fail
  refine (rtable_any 36 (by decide) _).mono ?_
  rintro e w1 ⟨rfl, hb1⟩
  have HB1 := Lib.hid hb1
  clear y0 y1 y2 y3 z0 z1 z2 z3 x0 x1 x2 x3 s1 s2 s3 hb1
  obtain ⟨⟨y0, y1, y2, y3⟩, ⟨z0, z1, z2, z3⟩, x0, x1, x2, x3, s3, s2, s1⟩ := HK.out w1 HB1.out
  cases u
  · have E : Hid (D = bad 8) := HD
    go_wp2_with fail
    go_ret3
    show RetD w _ _ _
    rw [E.out]
    exact ⟨none, 0, none, 0, rfl, readI_nil _, readI_nil _, b_call HBW.out HB1.out⟩
  · have E : Hid (D = ⟨[0], [3], 0⟩) := HD
    go_wp2_with fail
    refine (rkindsA 36 (by decide) _).mono ?_
    rintro e w8 ⟨a8, c8, rfl, hr8, hb8⟩
    have HR8 := Lib.hid hr8
    have HB8 := Lib.hid (b_call HB1.out hb8)
    clear hr8 hb8
    go_wp2_with fail
    refine (rkindsB 36 (by decide) _).mono ?_
    rintro e w9 ⟨a9, c9, rfl, hr9, hb9⟩
    have HR9 := Lib.hid hr9
    have HB9 := Lib.hid (b_call HB8.out hb9)
    have HR89 := Lib.hid (readI_below HR8.out hb9)
    clear hr9 hb9
    go_wp2_with fail
    go_ret3
    show RetD w _ _ _
    rw [E.out]
    exact ⟨a8, c8, a9, c9, rfl, HR89.out, HR9.out, b_call HBW.out HB9.out⟩
end
section
open Go.RowKit
set_option linter.unusedVariables false
set_option linter.unusedSimpArgs false
attribute [local go_sem] over_cell over_frozen
theorem rdeal_any (p : PrV) (P : PrM) (v : FnV) (f : FnM) (op x a b : Int) (sa : Option Addr) (sc : Nat) (st : List Int) (w : World) (h : ReadP w p P) (hs : SmallP P) (hf : DeepF w v f) (h1 : f.ps.length ≤ 10) (h2 : f.ls.length ≤ 10) (hst : ReadI w (.slice sa st.length sc) st) (hl : st.length ≤ 100) (hk1 : ∀ y ∈ f.ps ++ f.ls, 0 ≤ y) (hk2 : ∀ y ∈ P.gl, 0 ≤ y) (h0 : 0 ≤ op) (h37 : op < 37) (ha : 0 ≤ a) : Calls Try.prog 81 #[aggP p, aggF v, .agg #[.int .i64 op, .int .u64 x, .int .i64 a, .int .i64 b], .slice sa st.length sc] w (RetD w (deal P f ⟨op, x, a, b⟩ st)) := by
  by_cases e4 : op = 4
  · subst e4; exact rdeal4 p P v f x a b sa sc st w h hs hf h1 h2 hst hl hk1
  by_cases e5 : op = 5
  · subst e5; exact rdeal5 p P v f x a b sa sc st w h hs hf h1 h2 hst hl hk1
  by_cases e6 : op = 6
  · subst e6; exact rdeal6 p P v f x a b sa sc st w h hs hf h1 h2 hst hl hk2
  by_cases e7 : op = 7
  · subst e7; exact rdeal7 p P v f x a b sa sc st w h hs hf h1 h2 hst hl hk2
  by_cases e8 : op = 8
  · subst e8; exact rdeal8 p P v f x a b sa sc st w h hs hf h1 h2 hst hl 
  by_cases e9 : op = 9
  · subst e9; exact rdeal9 p P v f x a b sa sc st w h hs hf h1 h2 hst hl 
  by_cases e10 : op = 10
  · subst e10; exact rdeal10 p P v f x a b sa sc st w h hs hf h1 h2 hst hl 
  by_cases e11 : op = 11
  · subst e11; exact rdeal11 p P v f x a b sa sc st w h hs hf h1 h2 hst hl 
  by_cases e14 : op = 14
  · subst e14; exact rdeal14 p P v f x a b sa sc st w h hs hf h1 h2 hst hl ha
  by_cases e15 : op = 15
  · subst e15; exact rdeal15 p P v f x a b sa sc st w h hs hf h1 h2 hst hl 
  by_cases e17 : op = 17
  · subst e17; exact rdeal17 p P v f x a b sa sc st w h hs hf h1 h2 hst hl 
  by_cases e28 : op = 28
  · subst e28; exact rdeal28 p P v f x a b sa sc st w h hs hf h1 h2 hst hl ha
  by_cases e31 : op = 31
  · subst e31; exact rdeal31 p P v f x a b sa sc st w h hs hf h1 h2 hst hl 
  by_cases e32 : op = 32
  · subst e32; exact rdeal32 p P v f x a b sa sc st w h hs hf h1 h2 hst hl 
  by_cases e36 : op = 36
  · subst e36; exact rdeal36 p P v f x a b sa sc st w h hs hf h1 h2 hst hl 
  obtain ⟨n, rfl⟩ : ∃ n : Nat, op = n := ⟨op.toNat, by omega⟩
  have hno : n ∉ [4, 5, 6, 7, 8, 9, 10, 11, 14, 15, 17, 28, 31, 32, 36] := by simp only [List.mem_cons, List.not_mem_nil, or_false]; omega
  rw [deal_plain (n := n) rfl hno]
  exact rdeal_plain p P v f n x a b sa sc st w h hs hf h1 h2 hst hl (by omega) hno
end
end Go.Proofs.Ytdmidnmciaediaa
