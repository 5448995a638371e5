/- What chapter 26 takes of chapters 24 and 25: nothing of its own. No conditions. Layer 26: the contract of the program's function: going through one. Conditions: those stated. Layer 26: the contracts of slices.Clone of ints and of the program's Check. Conditions: those stated. Layer 26: the contracts of the program's Effect, of the law's one; chapter 26's examples. Conditions: those stated. Layer 26: the document's going through a function: what is in memory, and how it goes with the plain model. Conditions: those stated. Layer 26: what holds of the facts of a program that is checked, as plain lists. No program in sight. No conditions. Layer 26: what the laws of checked programs share. Conditions: those stated. -/
import Derived.Test.YtdmidnmciaediaaWMayR25
import Derived.Test.YtdmidnmciaediaaWBytes
import Derived.Laws.OwnMore
import Derived.Laws.IdiomStrings
import Derived.Test.YtdmidnmciaediaaWBase
import Derived.Test.YtdmidnmciaediaaWCut
import Derived.Test.YtdmidnmciaediaaWMayPa
import Derived.Test.YtdmidnmciaediaaWInstrBytes
import Derived.Test.YtdmidnmciaediaaWVerH
import Derived.Test.YtdmidnmciaediaaWVerT
import Derived.Test.YtdmidnmciaediaaWTypP
import Derived.Laws.StructEq
namespace Go.Proofs.Ytdmidnmciaediaa
section
open Go.RowKit
set_option linter.unusedVariables false
set_option linter.unusedSimpArgs false
attribute [local go_sem] over_cell over_frozen
theorem eff_on {P : PrM} {f : FnM} {k : Nat} {st : List Int} (hG : GoodE P f) (hk : k < f.code.length) (h : (effect P f k st).c = 0) : (∀ j ∈ (effect P f k st).p, 0 ≤ j ∧ j < f.code.length) ∧ (effect P f k st).t.length ≤ 16 ∧ (effect P f k st).p.length ≤ 2 := by
  have hi : 0 ≤ (codeAt f k).a := by
    unfold codeAt
    rw [show ((k : Int).toNat) = k from rfl, List.getD_eq_getElem?_getD, List.getElem?_eq_getElem hk]
    exact (hG.i _ (List.getElem_mem hk)).2.2
  have hw := ways_in (k := k) hi
  unfold effect effD at *
  split at h
  · rename_i q; exact absurd h q
  · rename_i q0
    split at h
    · exact absurd h (by decide)
    · rename_i q1
      split at h
      · exact absurd h (by decide)
      · rename_i q2
        split at h
        · exact absurd h (by decide)
        · rename_i q3
          split at h
          · exact absurd h (by decide)
          · rename_i q4
            rw [if_neg q0, if_neg q1, if_neg q2, if_neg q3, if_neg q4]
            refine ⟨fun j hj => ⟨hw.2 j hj, ?_⟩, ?_, hw.1⟩
            · have := q3
              simp only [List.any_eq_true, decide_eq_true_iff, not_exists, not_and] at this
              have := this j hj
              omega
            · show (st.take _ ++ _).length ≤ 16
              rw [List.length_append, List.length_take]
              omega
theorem noInt_new (w : World) (arr : Array Value) (T : TypeId) (h : ∀ x ∈ arr.toList, ∀ i, x ≠ .int .i64 i) : NoInt (w.alloc (.cells arr T)) w.heap.size := fun o i e => by
  rw [World.cell?_alloc_new] at e
  obtain ⟨ho, he⟩ := Array.getElem?_eq_some_iff.1 e
  exact h _ (by rw [← he]; exact Array.getElem_mem_toList ho) i rfl
/-- Facts in a row of the call's own. -/
structure RowAt (w : World) (B g n : Nat) (F : List (Bool × Sl)) (M : List (Option (List Int))) : Prop where
  fr : Blk w g (factE.row F)
  ng : NoInt w g
  lf : F.length = n
  ok : FactsOk w F M
  lo : B ≤ g
  ty : tyB w g = some FCT
  sm : ∀ k x, M.getD k none = some x → x.length ≤ 16
/-- What stands at a round's beginning. -/
structure Rnd (w0 w : World) (c g o n : Nat) (P : PrM) (f : FnM) (s : StM) (R : Sum (List (Option (List Int))) (Int × Int)) : Prop where
  be : Below w0.heap.size w0 w
  ck : ∃ F, ChkAt w c g o n F s.O s.F
  sm : ∀ k x, s.F.getD k none = some x → x.length ≤ 16
  r : ∃ fuel, R = runV P f fuel s ∧ mu s ≤ fuel
/-- What stands between the ways on. -/
structure LP (w0 w : World) (c g o n : Nat) (s1 : StM) (E : Deal) (ba : Option Addr) (bc : Nat) (oa : Option Addr) (oc : Nat) (j : Nat) (s : StM) : Prop where
  be : Below w0.heap.size w0 w
  ck : ∃ F, ChkAt w c g o n F s.O s.F
  sm : ∀ k x, s.F.getD k none = some x → x.length ≤ 16
  me : meets s1 E.t E.p = meets s E.t (E.p.drop j)
  mu : mu s ≤ mu s1
  rt : ReadI w (.slice ba E.t.length bc) E.t
  rp : ReadI w (.slice oa E.p.length oc) E.p
def mkF (m : Nat) : Array Value := madeCells (Value.agg #[.bool false, .slice none 0 0]).cells (m * factE.size)
def mkO (m : Nat) : Array Value := madeCells (Value.bool false).cells (m * bolE.size)
theorem rowFct : IsRow Try.prog 88 92 2 32 (.agg #[.bool false, .slice none 0 0]) := ⟨Try.underlying88, by kernel_rfl, by rfl⟩
theorem rowBol : IsRow Try.prog 96 4 1 1 (.bool false) := ⟨Try.underlying96, by kernel_rfl, by rfl⟩
theorem mkF_row (m : Nat) : (mkF m).toList = factE.row (List.replicate m (false, ⟨none, 0, 0⟩)) := made_row (c := factE) _ _ rfl m
theorem mkO_row (m : Nat) : (mkO m).toList = bolE.row (List.replicate m false) := made_row (c := bolE) _ _ rfl m
theorem mkF_no (m : Nat) : ∀ x ∈ (mkF m).toList, ∀ i, x ≠ .int .i64 i := by
  rw [mkF_row]
  intro x hx i e
  unfold Elt.row at hx
  obtain ⟨y, _, hy⟩ := List.mem_flatMap.1 hx
  subst e
  simp [factE] at hy
theorem mkO_no (m : Nat) : ∀ x ∈ (mkO m).toList, ∀ i, x ≠ .int .i64 i := by
  rw [mkO_row]
  intro x hx i e
  unfold Elt.row at hx
  obtain ⟨y, _, hy⟩ := List.mem_flatMap.1 hx
  subst e
  simp [bolE] at hy
theorem meet_sm {s : StM} {k : Nat} {st : List Int} (h : ∀ k x, s.F.getD k none = some x → x.length ≤ 16) (hst : st.length ≤ 16) : ∀ j x, (meetM s k st).2.F.getD j none = some x → x.length ≤ 16 := by
  intro j x
  unfold meetM
  cases hm : s.F.getD k none with
  | some y => exact h j x
  | none =>
    show (s.F.set k (some st)).getD j none = some x → _
    intro hx
    rw [List.getD_eq_getElem?_getD, List.getElem?_set] at hx
    split at hx
    · split at hx
      · simp at hx; subst hx; exact hst
      · simp at hx
    · rw [← List.getD_eq_getElem?_getD] at hx
      exact h j x hx
theorem run_step {P : PrM} {f : FnM} {fuel k : Nat} {s : StM} (h : firstT s.O = some k) (hf : mu s ≤ fuel) : ∃ n, fuel = n + 1 ∧ mu ⟨s.F, s.O.set k false⟩ ≤ n ∧ runV P f fuel s = if (effect P f k ((s.F.getD k none).getD [])).c ≠ 0 then .inr ((k : Int), (effect P f k ((s.F.getD k none).getD [])).c)
      else match meets ⟨s.F, s.O.set k false⟩ (effect P f k ((s.F.getD k none).getD [])).t (effect P f k ((s.F.getD k none).getD [])).p with
        | .inr j => .inr (j, 4)
        | .inl s' => runV P f n s' := by
  obtain ⟨h1, h2, h3⟩ := muO_first _ _ h
  have hm : mu s = muF s.F + muO s.O := rfl
  have hm2 : mu ⟨s.F, s.O.set k false⟩ = muF s.F + muO (s.O.set k false) := rfl
  obtain ⟨n, rfl⟩ : ∃ n, fuel = n + 1 := ⟨fuel - 1, by omega⟩
  refine ⟨n, rfl, by omega, ?_⟩
  rw [runV, h]
  rfl
theorem runV_code {P : PrM} {f : FnM} : ∀ (n : Nat) (s : StM) {x : Int × Int}, runV P f n s = .inr x → x.2 ≠ 0
  | 0, s, x, h => by cases h
  | n + 1, s, x, h => by
    rw [runV] at h
    split at h
    · cases h
    · split at h
      · rename_i q
        injection h with h
        rw [← h]; exact q
      · split at h
        · injection h with h
          rw [← h]; show (4 : Int) ≠ 0; decide
        · exact runV_code n _ h
/-- A row of facts, typed. -/
structure RowT (w : World) (g n : Nat) (F : List (Bool × Sl)) (M : List (Option (List Int))) : Prop where
  fr : Blk w g (factE.row F)
  ty : tyB w g = some FCT
  lf : F.length = n
  lm : M.length = n
  ok : ∀ k, (h : k < F.length) → F[k].1 = (M.getD k none).isSome ∧ ReadI w F[k].2.v ((M.getD k none).getD []) ∧ slOk w 3 F[k].2.a F[k].2.n
theorem slOk_below {w w' : World} {a : Option Addr} {n : Nat} (h : slOk w 3 a n) (hb : Below w.heap.size w w') : slOk w' 3 a n := slOk_keep h (fun k hk => tyB_call hk hb)
def SLT : TypeId := 88
def slE : Elt (Nat × Nat) where
  cells := fun s => [.slice (some ⟨s.1, 0, none⟩) s.2 s.2]
  size := 1
  pos := by decide
  len := fun _ => rfl
  one := fun r u hu => by
    simp only [List.mem_cons, List.not_mem_nil, or_false] at hu
    subst hu; rfl
theorem rowSl : IsRow Try.prog 76 SLT 1 24 (.slice none 0 0) := ⟨Try.underlying76, by kernel_rfl, by rfl⟩
/-- The rows of all functions that were gone through. -/
def AllR (w : World) (L : List (Nat × Nat)) (Ms : List (List (Option (List Int)))) : Prop := L.length = Ms.length ∧ ∀ k, (h : k < L.length) → (h' : k < Ms.length) → ∃ F, RowT w L[k].1 L[k].2 F Ms[k]
def chkFs (P : PrM) : List FnM → Nat → Sum (List (List (Option (List Int)))) (Int × Int × Int)
  | [], _ => .inl []
  | f :: fs, k => match funM P f with
    | .inr x => .inr ((k : Int), x.1, x.2)
    | .inl M => match chkFs P fs (k + 1) with
      | .inl Ms => .inl (M :: Ms)
      | .inr y => .inr y
def checkM (P : PrM) : Sum (List (List (Option (List Int)))) (Int × Int × Int) :=
  if mayP P = true then (if (P.fs.getD 0 fzM).ps ≠ [] ∨ (P.fs.getD 0 fzM).r ≠ 0 then .inr (0, 0, 7) else chkFs P P.fs 0) else .inr (0, 0, 5)
def wrongV (a b c : Int) : Value := .agg #[.int .i64 a, .int .i64 b, .int .i64 c]
/-- How the rest is joined. -/
def joinC (Acc : List (List (Option (List Int)))) : Sum (List (List (Option (List Int)))) (Int × Int × Int) → Sum (List (List (Option (List Int)))) (Int × Int × Int)
  | .inl Ms => .inl (Acc ++ Ms)
  | .inr y => .inr y
theorem join_step {P : PrM} {f : FnM} {fs : List FnM} {k : Nat} {M : List (Option (List Int))} {Acc : List (List (Option (List Int)))} (h : funM P f = .inl M) : joinC Acc (chkFs P (f :: fs) k) = joinC (Acc ++ [M]) (chkFs P fs (k + 1)) := by
  rw [show chkFs P (f :: fs) k = (match chkFs P fs (k + 1) with | .inl Ms => .inl (M :: Ms) | .inr y => .inr y) by rw [chkFs, h]]
  cases chkFs P fs (k + 1) with
  | inl Ms => show Sum.inl (Acc ++ M :: Ms) = Sum.inl (Acc ++ [M] ++ Ms); rw [List.append_assoc]; rfl
  | inr y => rfl
theorem join_bad {P : PrM} {f : FnM} {fs : List FnM} {k : Nat} {x : Int × Int} {Acc : List (List (Option (List Int)))} (h : funM P f = .inr x) : joinC Acc (chkFs P (f :: fs) k) = .inr ((k : Int), x.1, x.2) := by
  rw [show chkFs P (f :: fs) k = .inr ((k : Int), x.1, x.2) by rw [chkFs, h]]
  rfl
theorem fn_at0 {w : World} {p : PrV} {P : PrM} (h : ReadP w p P) (hk : 0 < P.fs.length) : ∃ b o, p.f.a = some ⟨b, o, none⟩ ∧ b < w.heap.size ∧ ∃ v : FnV, DeepF w v (P.fs.getD 0 fzM) ∧ w.cell? ⟨b, o, none⟩ = some (.slice v.p.a v.p.n v.p.c) ∧ w.cell? ⟨b, o + 2, none⟩ = some (.int .i64 (P.fs.getD 0 fzM).r) := by
  obtain ⟨b, o, ea, hl, v, hd, e0, _, e2, _⟩ := fn_at h hk
  have e : P.fs.getD 0 fzM = P.fs[0] := by rw [List.getD_eq_getElem?_getD, List.getElem?_eq_getElem hk]; rfl
  rw [Nat.zero_mul, Nat.add_zero] at e0 e2
  exact ⟨b, o, ea, hl, v, e ▸ hd, e0, by rw [e]; exact e2⟩
/-- A program that may be: each of its functions is such as it must be. -/
theorem may_good {P : PrM} (h : mayP P = true) : 0 < P.fs.length ∧ SmallP P ∧ ∀ f ∈ P.fs, SmallF f ∧ GoodE P f ∧ 0 < f.code.length ∧ f.code.length ≤ 200 := by
  have ok := okP_of h
  refine ⟨by have := ok.f1; omega, small_ok ok, fun f hf => ?_⟩
  have o := ok.f f hf
  refine ⟨(small_ok ok).a f hf, ⟨?_, fun y hy => (ok.kg y hy).1, fun i hi => ?_⟩, by have := o.c1; omega, by have := o.c2; omega⟩
  · intro y hy
    rcases List.mem_append.1 hy with q | q
    · exact (o.kp y q).1
    · exact (o.kl y q).1
  · have q := o.i i hi
    unfold mayI mayB at q
    simp only [Bool.and_eq_true] at q
    obtain ⟨⟨⟨q1, q2⟩, q3⟩, q4⟩ := q
    have ha : 0 ≤ i.a := by
      unfold smallB at q3
      rw [Bool.or_eq_true, decide_eq_true_iff, Bool.and_eq_true, Bool.and_eq_true, decide_eq_true_iff, decide_eq_true_iff] at q3
      omega
    rcases kind_cases i.op with h1 | ⟨k, hk, e⟩
    · have e4 : kindOf i.op = 4 := by unfold kindOf; rw [if_pos h1]
      unfold shOk at q1
      rw [e4] at q1
      exact absurd q1 (by decide)
    · exact ⟨by omega, by omega, ha⟩
/-- A row of facts, the first i of them with stacks of their own. -/
structure CR (w : World) (g n : Nat) (F : List (Bool × Sl)) (M : List (Option (List Int))) (i : Nat) : Prop where
  fr : Blk w g (factE.row F)
  ty : tyB w g = some FCT
  ng : NoInt w g
  lf : F.length = n
  lm : M.length = n
  ok : ∀ k, (h : k < F.length) → F[k].1 = (M.getD k none).isSome ∧ ReadI w F[k].2.v ((M.getD k none).getD []) ∧ (k < i → slOk w 3 F[k].2.a F[k].2.n)
theorem blk_new9 {w : World} {c : Array Value} {T : TypeId} {k : Nat} (hk : k = w.heap.size) : Blk (w.alloc (.cells c T)) k c.toList := by rw [hk]; exact blk_new w c T
/-- What stands ahead of a function. -/
structure CP (w0 w : World) (P : PrM) (R : Sum (List (List (Option (List Int)))) (Int × Int × Int)) (j : Nat) (a : Option Addr) (n c : Nat) (L0 : List (Nat × Nat)) : Prop where
  be : Below w0.heap.size w0 w
  x : ∃ L : List (Nat × Nat), n = L.length ∧ OwnR slE SLT w w0.heap.size (.slice a n c) L ∧ ∃ Acc, AllR w L Acc ∧ Acc.length = j ∧ R = joinC Acc (chkFs P (P.fs.drop j) j)
def cA : List In4 := [⟨1, 1, 0, 0⟩, ⟨15, 0, 0, 0⟩]
end
section
open Go.RowKit
set_option linter.unusedVariables false
set_option linter.unusedSimpArgs false
attribute [local go_sem] over_cell over_frozen
def DFT : TypeId := 91
structure DocAt (w : World) (g o n : Nat) (F : List (Bool × Sl)) (D : List Bool) (M : List (Option (List Int))) : Prop where
  fr : Blk w g (factE.row F)
  ob : Blk w o (bolE.row D)
  ng : NoInt w g
  no : NoInt w o
  e3 : g ≠ o
  lf : F.length = n
  lo : D.length = n
  ok : FactsOk w F M
  ty : tyB w g = some DFT
  so : ∀ k, (h : k < F.length) → slOk w 3 F[k].2.a F[k].2.n
theorem docAt_below {w w' : World} {g o n : Nat} {F : List (Bool × Sl)} {O : List Bool} {M : List (Option (List Int))} (h : DocAt w g o n F O M) (hb : Below w.heap.size w w') : DocAt w' g o n F O M :=
  ⟨blk_below h.fr hb, blk_below h.ob hb, noInt_below h.ng h.fr.1 hb, noInt_below h.no h.ob.1 hb, h.e3, h.lf, h.lo, ⟨h.ok.1, fun k hk => ⟨(h.ok.2 k hk).1, readI_below (h.ok.2 k hk).2 hb⟩⟩, tyB_call h.ty hb, fun k hk => slOk_below (h.so k hk) hb⟩
theorem doc_done {w : World} {g o n k : Nat} {F : List (Bool × Sl)} {O : List Bool} {M : List (Option (List Int))} (h : DocAt w g o n F O M) (hk : k < n) : DocAt (w.setCell ⟨o, k, none⟩ (.bool true)) g o n F (O.set k true) M := by
  have hO : k < O.length := by rw [h.lo]; exact hk
  have g2 : w.grownBy (w.setCell ⟨o, k, none⟩ (.bool true)) (some o) := gb_set (gb_refl _ _) _ _ _
  have lo1 : k < (bolE.row O).length := by rw [row_length]; show _ < O.length * 1; omega
  have e := blk_elt (c := bolE) h.ob hO true
  have e2 : Blk (w.setCell ⟨o, k * 1, none⟩ (.bool true)) o (bolE.row (O.set k true)) := e
  rw [Nat.mul_one] at e2
  refine ⟨blk_grown h.fr g2 (fun e => h.e3 (by injection e)), e2, noInt_grown h.ng h.fr.1 h.e3 g2, noInt_set h.no h.ob lo1 (fun i e => by cases e), h.e3, h.lf, by rw [List.length_set]; exact h.lo, ⟨h.ok.1, fun j hj => ?_⟩, by rw [tyB_set]; exact h.ty, fun j hj => slOk_keep (h.so j hj) (fun b hb => by rw [tyB_set]; exact hb)⟩
  exact ⟨(h.ok.2 j hj).1, readI_no (h.ok.2 j hj).2 h.no g2⟩
theorem tyB_sets (g k : Nat) : ∀ (us : List Value) (o : Nat) (w : World), tyB (w.setCells g o us) k = tyB w k
  | [], _, _ => rfl
  | v :: r, o, w => by rw [World.setCells, tyB_sets g k r, tyB_set]
theorem doc_set {w : World} {g o n k : Nat} {F : List (Bool × Sl)} {O : List Bool} {M : List (Option (List Int))} {st : List Int} {sa : Option Addr} {sc : Nat} (h : DocAt w g o n F O M) (hk : k < n) (hst : ReadI w (.slice sa st.length sc) st) (hso : slOk w 3 sa st.length) :
    DocAt (w.setCells g (k * 2) [.bool true, .slice sa st.length sc]) g o n (F.set k (true, ⟨sa, st.length, sc⟩)) O (M.set k (some st)) ∧ ∀ v xs, ReadI w v xs → ReadI (w.setCells g (k * 2) [.bool true, .slice sa st.length sc]) v xs := by
  have hF : k < F.length := by rw [h.lf]; exact hk
  have g1 : w.grownBy (w.setCells g (k * 2) [.bool true, .slice sa st.length sc]) (some g) := gb_sets _ _ (gb_refl _ _)
  have lg : k * 2 + 1 < (factE.row F).length := by rw [row_length]; show _ < F.length * 2; omega
  have ng1 : NoInt (w.setCells g (k * 2) [.bool true, .slice sa st.length sc]) g := by
    show NoInt ((w.setCell ⟨g, k * 2, none⟩ (.bool true)).setCell ⟨g, k * 2 + 1, none⟩ (.slice sa st.length sc)) g
    exact noInt_set (noInt_set h.ng h.fr (by omega) (fun i e => by cases e)) (blk_set h.fr _ _) (by simp; omega) (fun i e => by cases e)
  have fr1 : Blk (w.setCells g (k * 2) [.bool true, .slice sa st.length sc]) g (factE.row (F.set k (true, ⟨sa, st.length, sc⟩))) := blk_elt (c := factE) h.fr hF (true, ⟨sa, st.length, sc⟩)
  have hl := h.ok.1
  have R : ∀ v xs, ReadI w v xs → ReadI (w.setCells g (k * 2) [.bool true, .slice sa st.length sc]) v xs := fun v xs hv => readI_no hv h.ng g1
  refine ⟨⟨fr1, blk_grown h.ob g1 (fun e => h.e3 (by injection e with e; exact e.symm)), ng1, noInt_grown h.no h.ob.1 (fun e => h.e3 e.symm) g1, h.e3, by rw [List.length_set]; exact h.lf, h.lo, ⟨by rw [List.length_set, List.length_set]; exact hl, fun j hj => ?_⟩, by rw [tyB_sets]; exact h.ty, fun j hj => ?_⟩, R⟩
  · by_cases e : j = k
    · subst e
      rw [List.getElem_set_self, List.getD_eq_getElem?_getD, List.getElem?_set_self (by omega)]
      exact ⟨rfl, R _ _ hst⟩
    · have hj' : j < F.length := by simpa using hj
      have q := h.ok.2 j hj'
      rw [List.getElem_set_ne (fun z => e z.symm), List.getD_eq_getElem?_getD, List.getElem?_set_ne (fun z => e z.symm), ← List.getD_eq_getElem?_getD]
      exact ⟨q.1, R _ _ q.2⟩
  · refine slOk_keep (w := w) ?_ (fun b hb => by rw [tyB_sets]; exact hb)
    by_cases e : j = k
    · subst e
      rw [List.getElem_set_self]; exact hso
    · rw [List.getElem_set_ne (fun z => e z.symm)]
      exact h.so j (by simpa using hj)
/-- Which are open, told by which are done. -/
structure OpenRel (s : StM) (D : List Bool) : Prop where
  o : ∀ k, s.O.getD k false = ((s.F.getD k none).isSome && !(D.getD k false))
  d : ∀ k, D.getD k false = true → (s.F.getD k none).isSome = true
theorem getD_set {α : Type} (l : List α) (k j : Nat) (x d : α) (hk : k < l.length) : (l.set k x).getD j d = if k = j then x else l.getD j d := by
  rw [List.getD_eq_getElem?_getD, List.getElem?_set]
  split
  · rfl
  · rw [← List.getD_eq_getElem?_getD]
theorem getD_rep {α : Type} (n j : Nat) (x : α) : (List.replicate n x).getD j x = x := by
  rw [List.getD_eq_getElem?_getD, List.getElem?_replicate]
  split <;> rfl
theorem start_eq {n : Nat} (h : 0 < n) : start n = ⟨(List.replicate n none).set 0 (some []), (List.replicate n false).set 0 true⟩ := by
  unfold start meetM
  rw [show (List.replicate n (none : Option (List Int))).getD 0 none = none from getD_rep n 0 none]
theorem rel_start {n : Nat} (h : 0 < n) : OpenRel (start n) (List.replicate n false) := by
  rw [start_eq h]
  refine ⟨fun k => ?_, fun k hk => ?_⟩
  · show ((List.replicate n false).set 0 true).getD k false = _
    rw [getD_set _ _ _ _ _ (by simpa using h), getD_rep]
    show _ = ((((List.replicate n (none : Option (List Int))).set 0 (some [])).getD k none).isSome && !false)
    rw [getD_set _ _ _ _ _ (by simpa using h), getD_rep]
    by_cases e : 0 = k
    · rw [if_pos e, if_pos e]; rfl
    · rw [if_neg e, if_neg e]; rfl
  · rw [getD_rep] at hk; cases hk
theorem rel_done {s : StM} {D : List Bool} {k : Nat} (h : OpenRel s D) (hk : k < s.O.length) (hd : k < D.length) (ho : s.O.getD k false = true) : OpenRel ⟨s.F, s.O.set k false⟩ (D.set k true) := by
  have h0 := h.o k
  rw [ho] at h0
  refine ⟨fun j => ?_, fun j hj => ?_⟩
  · show (s.O.set k false).getD j false = ((s.F.getD j none).isSome && !((D.set k true).getD j false))
    rw [getD_set _ _ _ _ _ hk, getD_set _ _ _ _ _ hd]
    by_cases e : k = j
    · rw [if_pos e, if_pos e]; simp
    · rw [if_neg e, if_neg e]; exact h.o j
  · show (s.F.getD j none).isSome = true
    rw [getD_set _ _ _ _ _ hd] at hj
    by_cases e : k = j
    · subst e
      cases q : (s.F.getD k none).isSome with
      | true => rfl
      | false => rw [q] at h0; simp at h0
    · rw [if_neg e] at hj; exact h.d j hj
theorem rel_new {s : StM} {D : List Bool} {k : Nat} {st : List Int} (h : OpenRel s D) (hk : k < s.F.length) (hl : s.O.length = s.F.length) (hn : s.F.getD k none = none) : OpenRel ⟨s.F.set k (some st), s.O.set k true⟩ D := by
  have hD : D.getD k false = false := by
    cases q : D.getD k false with
    | false => rfl
    | true => have := h.d k q; rw [hn] at this; cases this
  refine ⟨fun j => ?_, fun j hj => ?_⟩
  · show (s.O.set k true).getD j false = (((s.F.set k (some st)).getD j none).isSome && !(D.getD j false))
    rw [getD_set _ _ _ _ _ (by omega), getD_set _ _ _ _ _ hk]
    by_cases e : k = j
    · subst e
      rw [if_pos rfl, if_pos rfl, hD]; rfl
    · rw [if_neg e, if_neg e]; exact h.o j
  · show ((s.F.set k (some st)).getD j none).isSome = true
    rw [getD_set _ _ _ _ _ hk]
    by_cases e : k = j
    · rw [if_pos e]; rfl
    · rw [if_neg e]; exact h.d j hj
theorem set_same {α : Type} (l : List α) (k : Nat) (x d : α) (hk : k < l.length) (h : l.getD k d = x) : l.set k x = l := by
  rw [List.getD_eq_getElem?_getD, List.getElem?_eq_getElem hk, Option.getD_some] at h
  rw [← h, List.set_getElem_self]
theorem muO_set : ∀ (D : List Bool) (k : Nat), k < D.length → D.getD k false = false → muO (D.set k true) = muO D + 1
  | false :: D, 0, _, _ => by simp [muO]; omega
  | true :: D, 0, _, h => by simp at h
  | true :: D, k + 1, hk, h => by
    have := muO_set D k (by simpa using hk) (by simpa using h)
    simp only [List.set_cons_succ, muO]; omega
  | false :: D, k + 1, hk, h => by
    have := muO_set D k (by simpa using hk) (by simpa using h)
    simp only [List.set_cons_succ, muO]; omega
theorem muO_le : ∀ (D : List Bool), muO D ≤ D.length
  | [] => Nat.le_refl _
  | true :: D => by have := muO_le D; simp only [muO, List.length_cons]; omega
  | false :: D => by have := muO_le D; simp only [muO, List.length_cons]; omega
theorem muO_all : ∀ (D : List Bool), muO D = D.length → ∀ k, k < D.length → D.getD k false = true
  | true :: D, _, 0, _ => rfl
  | true :: D, h, k + 1, hk => by
    have := muO_all D (by simp only [muO, List.length_cons] at h; omega) k (by simpa using hk)
    simpa using this
  | false :: D, h, _, _ => by have := muO_le D; simp only [muO, List.length_cons] at h; omega
end
section
open Go.RowKit
set_option linter.unusedVariables false
set_option linter.unusedSimpArgs false
def ClosedAt (P : PrM) (f : FnM) (F : List (Option (List Int))) (k : Nat) (st : List Int) : Prop := (effect P f k st).c = 0 ∧ ∀ j ∈ (effect P f k st).p, F.getD j.toNat none = some (effect P f k st).t
def GrowF (F F' : List (Option (List Int))) : Prop := ∀ k x, F.getD k none = some x → F'.getD k none = some x
theorem closed_grow {P : PrM} {f : FnM} {F F' : List (Option (List Int))} {k : Nat} {st : List Int} (h : ClosedAt P f F k st) (hg : GrowF F F') : ClosedAt P f F' k st := ⟨h.1, fun j hj => hg _ _ (h.2 j hj)⟩
structure GoodS (P : PrM) (f : FnM) (s : StM) : Prop where
  lf : s.F.length = f.code.length
  lo : s.O.length = f.code.length
  sm : ∀ k x, s.F.getD k none = some x → x.length ≤ 16
  op : ∀ k, s.O.getD k false = true → (s.F.getD k none).isSome = true
  inv : ∀ k st, s.F.getD k none = some st → s.O.getD k false = true ∨ ClosedAt P f s.F k st
  z : s.F.getD 0 none = some []
/-- What one meeting does. -/
structure MeetR (s s' : StM) : Prop where
  lf : s'.F.length = s.F.length
  lo : s'.O.length = s.O.length
  grow : GrowF s.F s'.F
  new : ∀ j x, s'.F.getD j none = some x → s.F.getD j none = some x ∨ s'.O.getD j false = true
  keep : ∀ j, s.O.getD j false = true → s'.O.getD j false = true
  op : (∀ k, s.O.getD k false = true → (s.F.getD k none).isSome = true) → ∀ k, s'.O.getD k false = true → (s'.F.getD k none).isSome = true
theorem meetR_refl (s : StM) : MeetR s s := ⟨rfl, rfl, fun _ _ h => h, fun _ _ h => Or.inl h, fun _ h => h, fun h => h⟩
theorem meetR_trans {s s' s'' : StM} (h : MeetR s s') (h' : MeetR s' s'') : MeetR s s'' :=
  ⟨h'.lf.trans h.lf, h'.lo.trans h.lo, fun k x q => h'.grow k x (h.grow k x q), fun j x q => by
    rcases h'.new j x q with z | z
    · rcases h.new j x z with y | y
      · exact Or.inl y
      · exact Or.inr (h'.keep j y)
    · exact Or.inr z, fun j q => h'.keep j (h.keep j q), fun q => h'.op (h.op q)⟩
theorem meetM_R {s : StM} {k : Nat} {st : List Int} (hk : k < s.F.length) (hl : s.O.length = s.F.length) : MeetR s (meetM s k st).2 ∧ ((meetM s k st).1 = true → (meetM s k st).2.F.getD k none = some st) := by
  unfold meetM
  cases hm : s.F.getD k none with
  | some y =>
    refine ⟨meetR_refl s, fun h => ?_⟩
    have e : y = st := of_decide_eq_true h
    show s.F.getD k none = some st
    rw [hm, e]
  | none =>
    refine ⟨⟨by simp, by simp, fun j x h => ?_, fun j x h => ?_, fun j h => ?_, fun hop j h => ?_⟩, fun _ => ?_⟩
    · show (s.F.set k (some st)).getD j none = some x
      rw [getD_set _ _ _ _ _ hk]
      split
      · rename_i e; subst e; rw [hm] at h; cases h
      · exact h
    · have h : (s.F.set k (some st)).getD j none = some x := h
      rw [getD_set _ _ _ _ _ hk] at h
      split at h
      · rename_i e; subst e
        right
        show (s.O.set k true).getD k false = true
        rw [getD_set _ _ _ _ _ (by omega), if_pos rfl]
      · exact Or.inl h
    · show (s.O.set k true).getD j false = true
      rw [getD_set _ _ _ _ _ (by omega)]
      split
      · rfl
      · exact h
    · have h : (s.O.set k true).getD j false = true := h
      show ((s.F.set k (some st)).getD j none).isSome = true
      rw [getD_set _ _ _ _ _ (by omega)] at h
      rw [getD_set _ _ _ _ _ hk]
      split
      · rfl
      · rename_i e
        rw [if_neg e] at h
        exact hop j h
    · show (s.F.set k (some st)).getD k none = some st
      rw [getD_set _ _ _ _ _ hk, if_pos rfl]
theorem meets_R {st : List Int} (hst : st.length ≤ 16) : ∀ (on : List Int) (s s' : StM), meets s st on = .inl s' → (∀ j ∈ on, j.toNat < s.F.length) → s.O.length = s.F.length → (∀ k x, s.F.getD k none = some x → x.length ≤ 16) → MeetR s s' ∧ (∀ j ∈ on, s'.F.getD j.toNat none = some st) ∧ (∀ k x, s'.F.getD k none = some x → x.length ≤ 16) ∧ mu s' ≤ mu s
  | [], s, s', h, _, _, hs => by
    injection h with h; subst h
    exact ⟨meetR_refl _, fun j hj => absurd hj (List.not_mem_nil), hs, Nat.le_refl _⟩
  | j :: on, s, s', h, hb, hl, hs => by
    rw [meets] at h
    split at h
    · rename_i h1
      have hj := hb j (List.mem_cons_self)
      obtain ⟨r1, r2⟩ := meetM_R (k := j.toNat) (st := st) hj hl
      have hmu := (meet_mu (s := s) (k := j.toNat) (st := st) hj).1
      obtain ⟨q1, q2, q3, q4⟩ := meets_R hst on _ s' h (fun i hi => by rw [r1.lf]; exact hb i (List.mem_cons_of_mem _ hi)) (by rw [r1.lo, r1.lf]; exact hl) (meet_sm hs hst)
      refine ⟨meetR_trans r1 q1, fun i hi => ?_, q3, Nat.le_trans q4 hmu⟩
      rcases List.mem_cons.1 hi with e | e
      · rw [e]; exact q1.grow _ _ (r2 h1)
      · exact q2 i e
    · cases h
theorem goodS_step {P : PrM} {f : FnM} {s s' : StM} {k : Nat} (hG : GoodE P f) (h : GoodS P f s) (hk : firstT s.O = some k) (hc : (effect P f k ((s.F.getD k none).getD [])).c = 0)
    (hm : meets ⟨s.F, s.O.set k false⟩ (effect P f k ((s.F.getD k none).getD [])).t (effect P f k ((s.F.getD k none).getD [])).p = .inl s') : GoodS P f s' ∧ mu s' ≤ mu ⟨s.F, s.O.set k false⟩ := by
  obtain ⟨k1, k2, k3⟩ := muO_first _ _ hk
  have hkl : k < f.code.length := by rw [← h.lo]; exact k1
  have hsome := h.op k k2
  obtain ⟨st, hst⟩ : ∃ st, s.F.getD k none = some st := by
    cases q : s.F.getD k none with
    | none => rw [q] at hsome; cases hsome
    | some st => exact ⟨st, rfl⟩
  rw [hst, Option.getD_some] at hc hm
  obtain ⟨e1, e2, e3⟩ := eff_on hG hkl hc
  have hb : ∀ j ∈ (effect P f k st).p, j.toNat < s.F.length := fun j hj => by
    have := e1 j hj; rw [h.lf]; omega
  obtain ⟨r, q2, q3, q4⟩ := meets_R e2 _ _ _ hm hb (by show (s.O.set k false).length = s.F.length; rw [List.length_set, h.lo, h.lf]) h.sm
  have hO : ∀ j, (s.O.set k false).getD j false = true → s.O.getD j false = true := fun j hj => by
    rw [getD_set _ _ _ _ _ k1] at hj
    split at hj
    · cases hj
    · exact hj
  refine ⟨⟨r.lf.trans h.lf, r.lo.trans (by show (s.O.set k false).length = _; rw [List.length_set]; exact h.lo), q3, r.op (fun j hj => h.op j (hO j hj)), fun j x hx => ?_, r.grow 0 [] h.z⟩, q4⟩
  rcases r.new j x hx with z | z
  · have z : s.F.getD j none = some x := z
    rcases h.inv j x z with y | y
    · by_cases e : j = k
      · subst e
        rw [hst] at z
        injection z with z
        subst z
        exact Or.inr ⟨hc, q2⟩
      · refine Or.inl (r.keep j ?_)
        show (s.O.set k false).getD j false = true
        rw [getD_set _ _ _ _ _ k1, if_neg (fun z => e z.symm)]
        exact y
    · exact Or.inr (closed_grow y r.grow)
  · exact Or.inl z
theorem runV_good {P : PrM} {f : FnM} (hG : GoodE P f) : ∀ (n : Nat) (s : StM) {M : List (Option (List Int))}, mu s ≤ n → GoodS P f s → runV P f n s = .inl M → ∃ s', firstT s'.O = none ∧ GoodS P f s' ∧ M = s'.F := by
  intro n
  induction n with
  | zero =>
    intro s M hmu h hr
    cases hf : firstT s.O with
    | none => rw [runV_stop hf] at hr; injection hr with hr; exact ⟨s, hf, h, hr.symm⟩
    | some k => obtain ⟨n, e, _⟩ := run_step (P := P) (f := f) hf hmu; omega
  | succ n ih =>
    intro s M hmu h hr
    cases hf : firstT s.O with
    | none => rw [runV_stop hf] at hr; injection hr with hr; exact ⟨s, hf, h, hr.symm⟩
    | some k =>
      obtain ⟨n', e, hm1, hr2⟩ := run_step (P := P) (f := f) hf hmu
      have e : n = n' := by omega
      subst e
      rw [hr2] at hr
      split at hr
      · cases hr
      · rename_i hc
        have hc : (effect P f k ((s.F.getD k none).getD [])).c = 0 := by
          by_cases q : (effect P f k ((s.F.getD k none).getD [])).c = 0
          · exact q
          · exact absurd q hc
        split at hr
        · cases hr
        · rename_i s' hm
          obtain ⟨g1, g2⟩ := goodS_step hG h hf hc hm
          exact ih s' (Nat.le_trans g2 hm1) g1 hr
theorem goodS_start (P : PrM) (f : FnM) (h : 0 < f.code.length) : GoodS P f (start f.code.length) ∧ mu (start f.code.length) ≤ 2 * f.code.length := by
  have h3 : ∀ m, muF (List.replicate m none) = 2 * m := fun m => by
    induction m with
    | zero => rfl
    | succ m ih => rw [List.replicate_succ]; simp only [muF]; omega
  have h4 : ∀ m, muO (List.replicate m false) = 0 := fun m => by
    induction m with
    | zero => rfl
    | succ m ih => rw [List.replicate_succ]; simp only [muO]; exact ih
  have h1 := muF_set (List.replicate f.code.length none) 0 [] (by simpa using h) (getD_rep _ _ _)
  have h2 := muO_true (List.replicate f.code.length false) 0
  have h5 := h3 f.code.length
  have h6 := h4 f.code.length
  rw [start_eq h]
  have hF : ∀ k, ((List.replicate f.code.length (none : Option (List Int))).set 0 (some [])).getD k none = if 0 = k then some [] else none := fun k => by
    rw [getD_set _ _ _ _ _ (by simpa using h), getD_rep]
  have hO : ∀ k, ((List.replicate f.code.length false).set 0 true).getD k false = if 0 = k then true else false := fun k => by
    rw [getD_set _ _ _ _ _ (by simpa using h), getD_rep]
  refine ⟨⟨by simp, by simp, fun k x hx => ?_, fun k hk => ?_, fun k x hx => ?_, ?_⟩, ?_⟩
  · have hx : ((List.replicate f.code.length (none : Option (List Int))).set 0 (some [])).getD k none = some x := hx
    rw [hF] at hx
    split at hx
    · injection hx with hx; subst hx; simp
    · cases hx
  · have hk : ((List.replicate f.code.length false).set 0 true).getD k false = true := hk
    show (((List.replicate f.code.length (none : Option (List Int))).set 0 (some [])).getD k none).isSome = true
    rw [hO] at hk
    rw [hF]
    split at hk
    · rename_i e; rw [if_pos e]; rfl
    · cases hk
  · have hx : ((List.replicate f.code.length (none : Option (List Int))).set 0 (some [])).getD k none = some x := hx
    left
    show ((List.replicate f.code.length false).set 0 true).getD k false = true
    rw [hF] at hx
    rw [hO]
    split at hx
    · rename_i e; rw [if_pos e]
    · cases hx
  · show ((List.replicate f.code.length (none : Option (List Int))).set 0 (some [])).getD 0 none = some []
    rw [hF, if_pos rfl]
  · show muF ((List.replicate f.code.length none).set 0 (some [])) + muO ((List.replicate f.code.length false).set 0 true) ≤ _
    omega
/-- What holds of a function's facts. -/
structure FinF (P : PrM) (f : FnM) (M : List (Option (List Int))) : Prop where
  len : M.length = f.code.length
  z : M.getD 0 none = some []
  sm : ∀ k x, M.getD k none = some x → x.length ≤ 16
  cl : ∀ k x, M.getD k none = some x → ClosedAt P f M k x
theorem funM_fin {P : PrM} {f : FnM} {M : List (Option (List Int))} (hG : GoodE P f) (h0 : 0 < f.code.length) (h : funM P f = .inl M) : FinF P f M := by
  obtain ⟨g1, g2⟩ := goodS_start P f h0
  obtain ⟨s', q1, q2, rfl⟩ := runV_good hG _ _ g2 g1 h
  refine ⟨q2.lf, q2.z, q2.sm, fun k x hx => ?_⟩
  rcases q2.inv k x hx with z | z
  · rw [first_none _ q1 k] at z; cases z
  · exact z
theorem chkFs_all {P : PrM} : ∀ (fs : List FnM) (j : Nat) {Ms : List (List (Option (List Int)))}, chkFs P fs j = .inl Ms → Ms.length = fs.length ∧ ∀ k, (h : k < fs.length) → (h' : k < Ms.length) → funM P fs[k] = .inl Ms[k]
  | [], j, Ms, h => by
    injection h with h; subst h
    exact ⟨rfl, fun k hk => absurd hk (Nat.not_lt_zero _)⟩
  | f :: fs, j, Ms, h => by
    rw [chkFs] at h
    split at h
    · cases h
    · rename_i M hM
      split at h
      · rename_i Ms' hMs
        injection h with h; subst h
        obtain ⟨i1, i2⟩ := chkFs_all fs (j + 1) hMs
        refine ⟨by simp [i1], fun k hk hk' => ?_⟩
        cases k with
        | zero => exact hM
        | succ k => exact i2 k (by simpa using hk) (by simpa using hk')
      · cases h
theorem checkM_all {P : PrM} {Ms : List (List (Option (List Int)))} (h : checkM P = .inl Ms) : mayP P = true ∧ Ms.length = P.fs.length ∧ ∀ k, (h : k < P.fs.length) → (h' : k < Ms.length) → FinF P P.fs[k] Ms[k] := by
  unfold checkM at h
  split at h
  · rename_i hm
    split at h
    · cases h
    · obtain ⟨i1, i2⟩ := chkFs_all _ _ h
      refine ⟨hm, i1, fun k hk hk' => ?_⟩
      obtain ⟨_, _, g3⟩ := may_good hm
      obtain ⟨_, g5, g6, _⟩ := g3 _ (List.getElem_mem hk)
      exact funM_fin g5 g6 (i2 k hk hk')
  · cases h
end
section
open Go.RowKit
set_option linter.unusedVariables false
set_option linter.unusedSimpArgs false
attribute [local go_sem] over_cell over_frozen
theorem store2 {w W : World} {x y : Value} {T : TypeId} {c0 : Array Value} (hw : c0.size = 2) (h : W = ((w.alloc (.cells c0 T)).setCell ⟨w.heap.size, 0, none⟩ x).setCell ⟨w.heap.size, 1, none⟩ y) : Blk W w.heap.size [x, y] ∧ Below w.heap.size w W := by
  subst h
  have hb := blk_new w c0 T
  obtain ⟨a0, a1, e⟩ : ∃ a0 a1, c0.toList = [a0, a1] := by
    have hl : c0.toList.length = 2 := by simpa using hw
    match c0.toList, hl with
    | [a0, a1], _ => exact ⟨a0, a1, rfl⟩
  rw [e] at hb
  exact ⟨blk_set (blk_set hb 0 _) 1 _, b_grown (b_alloc (Below.refl _ _) _) (gb_set (gb_set (gb_refl _ (some w.heap.size)) _ _ _) _ _ _) (Nat.le_refl _)⟩
theorem chkFs_code {P : PrM} : ∀ (fs : List FnM) (j : Nat) {x : Int × Int × Int}, chkFs P fs j = .inr x → x.2.2 ≠ 0
  | [], j, x, h => by cases h
  | f :: fs, j, x, h => by
    rw [chkFs] at h
    split at h
    · rename_i y hy
      injection h with h; subst h
      exact runV_code _ _ hy
    · split at h
      · cases h
      · rename_i y hy
        injection h with h; subst h
        exact chkFs_code fs (j + 1) hy
theorem checkM_code {P : PrM} {x : Int × Int × Int} (h : checkM P = .inr x) : x.2.2 ≠ 0 := by
  unfold checkM at h
  split at h
  · split at h
    · injection h with h; subst h; show (7 : Int) ≠ 0; decide
    · exact chkFs_code _ _ h
  · injection h with h; subst h; show (5 : Int) ≠ 0; decide
end
end Go.Proofs.Ytdmidnmciaediaa
