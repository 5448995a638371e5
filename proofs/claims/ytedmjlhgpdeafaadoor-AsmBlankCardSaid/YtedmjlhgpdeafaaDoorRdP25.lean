/- Layer 25: a reader's program. Conditions: the reader stands, its bytes are bytes, and not too many. -/
import Derived.Test.YtedmjlhgpdeafaaDoorRdC25
import Derived.Test.YtedmjlhgpdeafaaDoorInstrWake
namespace Go.Proofs.YtedmjlhgpdeafaaDoor
open Go.RowKit
set_option linter.unusedVariables false
set_option linter.unusedSimpArgs false
theorem bytesOf_back {xs : List Int} (h : IsBytes xs) : (bytesOf xs).toList.map (fun b => (b.toNat : Int)) = xs := by
  unfold bytesOf
  rw [ByteArray.toList_mk, List.map_map]
  conv => rhs; rw [← List.map_id xs]
  apply List.map_congr_left
  intro x hx
  have := h x hx
  simp only [Function.comp, id]
  rw [UInt8.toNat_ofNat']; omega
theorem bytesOf_inj {xs ys : List Int} (hx : IsBytes xs) (hy : IsBytes ys) (h : (bytesOf xs).toList = (bytesOf ys).toList) : xs = ys := by
  rw [← bytesOf_back hx, ← bytesOf_back hy, h]
/-- A program that a call has made, from block B on. -/
structure MadeP (w : World) (B : Nat) (q : PrV) (P : PrM) : Prop where
  u : q.u = P.u
  m : q.m = P.m
  g : ReadI w (.slice q.g.a q.g.n q.g.c) P.gl
  s : slOk w INTT q.g.a q.g.n
  f : ∃ L, OwnR fnE FUNT w B (.slice q.f.a q.f.n q.f.c) L ∧ AllT w L P.fs
theorem madeP_read {w : World} {B : Nat} {q : PrV} {P : PrM} (h : MadeP w B q P) : ReadP w q P := by
  obtain ⟨h1, h2, h3, h4, L, h5, h6⟩ := h
  exact ⟨h1, h3, h2, L, ownR_read h5, allT_F h6⟩
theorem madeP_grown {w w' : World} {B j : Nat} {q : PrV} {P : PrM} (h : MadeP w B q P) (hg : w.grownBy w' (some j)) (hj : j < B) {X : TypeId} (hX : tyB w j = some X) (h1 : X ≠ INTT) (h2 : X ≠ INST) : MadeP w' B q P := by
  obtain ⟨e1, e2, h3, h4, L, h5, h6⟩ := h
  have K : KeepT w w' := keepT_grown hg (fun i e => by injection e with e; subst e; exact ⟨X, hX, h1, h2⟩)
  refine ⟨e1, e2, readI_keep K h4 h3, slOk_keep h4 (keepT_ty K (Or.inl rfl)), L, ownR_kept h5 hg ?_, allT_keep K h6⟩
  cases hv : (Value.slice q.f.a q.f.n q.f.c).ownBlock with
  | none => exact Or.inl rfl
  | some i => exact Or.inr (by intro e; injection e with e; have := (ownR_lt h5 i hv).1; omega)
theorem madeP_below {w w' : World} {B : Nat} {q : PrV} {P : PrM} (h : MadeP w B q P) (hb : Below w.heap.size w w') : MadeP w' B q P := by
  obtain ⟨e1, e2, h3, h4, L, h5, h6⟩ := h
  have K := keepT_below hb
  exact ⟨e1, e2, readI_below h3 hb, slOk_keep h4 (keepT_ty K (Or.inl rfl)), L, ownR_below h5 hb, allT_keep K h6⟩
theorem rdLst_rest {b y r : List Int} (h : rdLst b = some (y, r)) (hb : IsBytes b) : IsBytes r ∧ r.length ≤ b.length ∧ y.length < 256 := by
  cases b with
  | nil => cases h
  | cons x l =>
    unfold rdLst at h
    simp only at h
    split at h
    · injection h with h; injection h with h1 h2
      subst h1; subst h2
      have hx := hb x (List.mem_cons_self ..)
      exact ⟨isBytes_drop (fun z hz => hb z (List.mem_cons_of_mem _ hz)) _, by rw [List.length_drop, List.length_cons]; omega, by rw [List.length_take]; omega⟩
    · cases h
theorem rdCode_rest : ∀ {n : Nat} {b r : List Int} {c : List In4} (_ : rdCode n b = some (c, r)) (_ : IsBytes b), IsBytes r ∧ r.length ≤ b.length ∧ c.length = n
  | 0, b, r, c, h, hb => by unfold rdCode at h; injection h with h; injection h with h1 h2; subst h1; subst h2; exact ⟨hb, Nat.le_refl _, rfl⟩
  | n + 1, b, r, c, h, hb => by
    unfold rdCode at h
    split at h
    · cases hq : rdCode n (b.drop (szR (opR b))) with
      | none => rw [hq] at h; cases h
      | some p =>
        obtain ⟨c', r'⟩ := p
        rw [hq] at h
        injection h with h; injection h with h1 h2; subst h1; subst h2
        obtain ⟨q1, q2, q3⟩ := rdCode_rest hq (isBytes_drop hb _)
        exact ⟨q1, by rw [List.length_drop] at q2; omega, by rw [List.length_cons, q3]⟩
    · cases h
theorem rdCodes_rest {b r : List Int} {c : List In4} (h : rdCodes b = some (c, r)) (hb : IsBytes b) : IsBytes r ∧ r.length ≤ b.length ∧ c.length < 256 := by
  cases b with
  | nil => cases h
  | cons x l =>
    have hx := hb x (List.mem_cons_self ..)
    obtain ⟨q1, q2, q3⟩ := rdCode_rest (show rdCode x.toNat l = some (c, r) from h) (fun z hz => hb z (List.mem_cons_of_mem _ hz))
    exact ⟨q1, by rw [List.length_cons]; omega, by omega⟩
theorem rdFuncs_no {n : Nat} {b : List Int} (h : rdFunc b = none) : rdFuncs (n + 1) b = none := by unfold rdFuncs; rw [h]
theorem rdFuncs_ok {n : Nat} {b b1 : List Int} {f : FnM} (h : rdFunc b = some (f, b1)) (done : List FnM) : mapC done (rdFuncs (n + 1) b) = mapC (done ++ [f]) (rdFuncs n b1) := by
  conv => lhs; unfold rdFuncs
  rw [h]
  simp only
  cases rdFuncs n b1 with
  | none => rfl
  | some p => obtain ⟨c, r⟩ := p; simp [mapC]
/-- What prog's variable holds. -/
def PSt (wr : World) (x : Nat) (u : Bool) (gl : List Int) (m : Int) (fs : List FnM) : Prop := ∃ (v : Value) (a : Option Addr) (n c : Nat) (L : List FnV), OwnR fnE FUNT wr (x + 1) v L ∧ AllT wr L fs ∧ ReadI wr (.slice a n c) gl ∧ slOk wr INTT a n ∧ Blk wr x [.bool u, .slice a n c, .int .i64 m, v] ∧ tyB wr x = some PROT
theorem pst_below {wr w' : World} {x : Nat} {u : Bool} {gl : List Int} {m : Int} {fs : List FnM} (h : PSt wr x u gl m fs) (hb : Below wr.heap.size wr w') : PSt w' x u gl m fs := by
  obtain ⟨v, a, n, c, L, h1, h2, h3, h4, h5, h6⟩ := h
  have K := keepT_below hb
  exact ⟨v, a, n, c, L, ownR_below h1 hb, allT_keep K h2, readI_keep K h4 h3, slOk_keep h4 (keepT_ty K (Or.inl rfl)), blk_below h5 hb, tyB_call h6 hb⟩
theorem pst_alloc {wr : World} {x : Nat} {u : Bool} {gl : List Int} {m : Int} {fs : List FnM} (h : PSt wr x u gl m fs) (o : Obj) : PSt (wr.alloc o) x u gl m fs := pst_below h (b_alloc (Below.refl _ _) o)
/-- A row of numbers that has just been read. -/
def Num1 (wr : World) (v : Value) (xs : List Int) : Prop := ∃ a n c, v = .slice a n c ∧ ReadI wr (.slice a n c) xs ∧ slOk wr INTT a n
theorem num1_of {w : World} {B : Nat} {v : Value} {xs : List Int} (h : OwnR intE INTT w B v xs) : Num1 w v xs := by
  obtain ⟨a, cap, rfl, _⟩ := readR_len (ownR_read h)
  exact ⟨a, _, cap, rfl, readR_I (ownR_read h), ownR_slOk h⟩
theorem num1_keep {w w' : World} {v : Value} {xs : List Int} (h : Num1 w v xs) (K : KeepT w w') : Num1 w' v xs := by
  obtain ⟨a, n, c, rfl, h1, h2⟩ := h
  exact ⟨a, n, c, rfl, readI_keep K h2 h1, slOk_keep h2 (keepT_ty K (Or.inl rfl))⟩
end Go.Proofs.YtedmjlhgpdeafaaDoor
