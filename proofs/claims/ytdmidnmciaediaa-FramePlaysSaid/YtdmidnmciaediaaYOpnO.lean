/- Layer 28's calls that came in read as rows; so do their arguments. Printed by mkopno.py. No conditions. -/
import Derived.Test.YtdmidnmciaediaaYOpenP25
import Derived.Test.YtdmidnmciaediaaYFrK
namespace Go.Proofs.Ytdmidnmciaediaa
open Go.ChangeShapes Go.WideShapes Go.Deep Go.RowKit
set_option linter.unusedVariables false
set_option linter.unusedSimpArgs false
/-- A call's cells. -/
structure OpV where
  kind : Int
  f : Int
  k : Int
  v : ValM
  s : Sl
  fit : Bool
def opE : Elt OpV where
  cells := fun o => [.int .i64 o.kind, .int .i64 o.f, .int .i64 o.k, .int .i64 o.v.k, .int .u64 o.v.b, .slice o.s.a o.s.n o.s.c, .bool o.fit]
  size := 7
  pos := by decide
  len := fun _ => rfl
  one := fun o u hu => by
    simp only [List.mem_cons, List.not_mem_nil, or_false] at hu
    rcases hu with rfl | rfl | rfl | rfl | rfl | rfl | rfl <;> rfl
def GoodOp (w : World) (o : OpV) : Prop := ∃ A, ReadR valE w (.slice o.s.a o.s.n o.s.c) A
def OpOk (w : World) (v : OpV) (o : OpM) : Prop := v.kind = o.kind ∧ v.f = o.f ∧ v.k = o.k ∧ v.v = o.v ∧ v.fit = o.fit ∧ v.s.n = o.args.length ∧ ReadR valE w (.slice v.s.a v.s.n v.s.c) o.args
/-- The calls: their rows, each with its arguments. -/
def OpsR (w : World) (u : Value) (M : List OpM) : Prop := ∃ V, ReadR opE w u V ∧ V.length = M.length ∧ ∀ k, (h : k < V.length) → (h' : k < M.length) → OpOk w V[k] M[k]
theorem ops_of {w : World} {u : Value} {V : List OpV} (h : ReadR opE w u V) (hg : ∀ o ∈ V, GoodOp w o) : ∃ M, OpsR w u M := by
  have key : ∀ (V : List OpV), (∀ o ∈ V, GoodOp w o) → ∃ M : List OpM, V.length = M.length ∧ ∀ k, (h : k < V.length) → (h' : k < M.length) → OpOk w V[k] M[k] := by
    intro V
    induction V with
    | nil => exact fun _ => ⟨[], rfl, fun k h => by simp at h⟩
    | cons o V ih =>
      intro hg
      obtain ⟨M, h1, h2⟩ := ih (fun x hx => hg x (List.mem_cons_of_mem _ hx))
      obtain ⟨A, hA⟩ := hg o (List.mem_cons_self ..)
      obtain ⟨_, _, e, _, _⟩ := readR_len hA
      injection e with _ e2 _
      refine ⟨⟨o.kind, o.f, o.k, o.v, A, o.fit⟩ :: M, by simp [h1], fun k h h' => ?_⟩
      cases k with
      | zero => exact ⟨rfl, rfl, rfl, rfl, rfl, e2, hA⟩
      | succ k => exact h2 k (by simpa using h) (by simpa using h')
  obtain ⟨M, h1, h2⟩ := key V hg
  exact ⟨M, V, h, h1, h2⟩
section
variable {H : Type} {enc : TypeId × Value → H} {w : World} {base : Nat} {spare : Nat → Bool} {held : Bool}
theorem open_boo28 {t : TypeId} {n : Nat} {cs : List Value} {y : DataW H × List MemPlace} (ht : Try.prog.underlying t = some .bool) (h : DataW.trod enc Try.prog w base spare held n t cs = some y) : ∃ a : Bool, cs = [.bool a] := by
  obtain ⟨b, c0, _⟩ := DataW.trod_bool ht h
  exact ⟨b, c0⟩
set_option maxRecDepth 100000 in
theorem open_vals28 {n : Nat} {cs : List Value} {x : DataW H × List MemPlace} (h : DataW.trod enc Try.prog w base spare held n 55 cs = some x) : ∃ (s : Sl) (L : List ValM), cs = [s.v] ∧ ReadR valE w s.v L := by
  obtain ⟨s, L, h1, h2, _⟩ := open_rows2 valE (fun _ => True) Try.underlying55 (by kernel_rfl) (fun n cs y htr hl => by
    obtain ⟨ays, an, _, _, _, ahl, ahf⟩ := DataW.trod_struct Try.underlying54 htr
    have ag : ∀ j, j < 2 → ∃ y, ays[j]? = some y := fun j hj => ⟨_, List.getElem?_eq_getElem (by rw [ahl]; exact hj)⟩
    have af0 := ahf 0 _ rfl
    have af1 := ahf 1 _ rfl
    obtain ⟨ay0, ae0⟩ := ag 0 (by omega)
    obtain ⟨ay1, ae1⟩ := ag 1 (by omega)
    rw [ae0] at af0
    rw [ae1] at af1
    obtain ⟨a0, c0, _, _⟩ := open_i64 Try.underlying3 af0
    obtain ⟨a1, c1, _, _⟩ := open_u64 Try.underlying39 af1
    refine ⟨⟨a0, a1⟩, ?_, trivial⟩
    have hl' : cs.length = 2 := hl
    obtain ⟨x0, x1, rfl⟩ : ∃ x0 x1, cs = [x0, x1] := by
      match cs, hl' with
      | [x0, x1], _ => exact ⟨x0, x1, rfl⟩
    have q0 : [x0] = [.int .i64 a0] := c0
    have q1 : [x1] = [.int .u64 a1] := c1
    injection q0 with q0
    injection q1 with q1
    subst q0 q1
    rfl) h
  exact ⟨s, L, h1, h2⟩
set_option maxRecDepth 100000 in
theorem open_op28 {n : Nat} {cs : List Value} {x : DataW H × List MemPlace} (h : DataW.trod enc Try.prog w base spare held n 49 cs = some x) : ∃ (s : Sl) (L : List OpV), cs = [s.v] ∧ ReadR opE w s.v L ∧ ∀ i ∈ L, GoodOp w i := by
  refine open_rows2 opE (GoodOp w) Try.underlying49 (by kernel_rfl) (fun n cs y htr hl => ?_) h
  obtain ⟨ays, an, _, _, _, ahl, ahf⟩ := DataW.trod_struct Try.underlying57 htr
  have ag : ∀ j, j < 6 → ∃ y, ays[j]? = some y := fun j hj => ⟨_, List.getElem?_eq_getElem (by rw [ahl]; exact hj)⟩
  have af0 := ahf 0 _ rfl
  have af1 := ahf 1 _ rfl
  have af2 := ahf 2 _ rfl
  have af3 := ahf 3 _ rfl
  have af4 := ahf 4 _ rfl
  have af5 := ahf 5 _ rfl
  obtain ⟨ay0, ae0⟩ := ag 0 (by omega)
  obtain ⟨ay1, ae1⟩ := ag 1 (by omega)
  obtain ⟨ay2, ae2⟩ := ag 2 (by omega)
  obtain ⟨ay3, ae3⟩ := ag 3 (by omega)
  obtain ⟨ay4, ae4⟩ := ag 4 (by omega)
  obtain ⟨ay5, ae5⟩ := ag 5 (by omega)
  rw [ae0] at af0
  rw [ae1] at af1
  rw [ae2] at af2
  rw [ae3] at af3
  rw [ae4] at af4
  rw [ae5] at af5
  obtain ⟨bys, bn, _, _, _, bhl, bhf⟩ := DataW.trod_struct Try.underlying54 af3
  have bg : ∀ j, j < 2 → ∃ y, bys[j]? = some y := fun j hj => ⟨_, List.getElem?_eq_getElem (by rw [bhl]; exact hj)⟩
  have bf0 := bhf 0 _ rfl
  have bf1 := bhf 1 _ rfl
  obtain ⟨by0, be0⟩ := bg 0 (by omega)
  obtain ⟨by1, be1⟩ := bg 1 (by omega)
  rw [be0] at bf0
  rw [be1] at bf1
  obtain ⟨a0, c0, _, _⟩ := open_i64 Try.underlying3 af0
  obtain ⟨a1, c1, _, _⟩ := open_i64 Try.underlying3 af1
  obtain ⟨a2, c2, _, _⟩ := open_i64 Try.underlying3 af2
  obtain ⟨a3, c3, _, _⟩ := open_i64 Try.underlying3 bf0
  obtain ⟨a4, c4, _, _⟩ := open_u64 Try.underlying39 bf1
  obtain ⟨s5, A5, c5, r5⟩ := open_vals28 af4
  obtain ⟨a6, c6⟩ := open_boo28 Try.underlying4 af5
  refine ⟨⟨a0, a1, a2, ⟨a3, a4⟩, s5, a6⟩, ?_, A5, r5⟩
  have hl' : cs.length = 7 := hl
  obtain ⟨x0, x1, x2, x3, x4, x5, x6, rfl⟩ : ∃ x0 x1 x2 x3 x4 x5 x6, cs = [x0, x1, x2, x3, x4, x5, x6] := by
    match cs, hl' with
    | [x0, x1, x2, x3, x4, x5, x6], _ => exact ⟨x0, x1, x2, x3, x4, x5, x6, rfl⟩
  have q0 : [x0] = [.int .i64 a0] := c0
  have q1 : [x1] = [.int .i64 a1] := c1
  have q2 : [x2] = [.int .i64 a2] := c2
  have q3 : [x3] = [.int .i64 a3] := c3
  have q4 : [x4] = [.int .u64 a4] := c4
  have q5 : [x5] = [s5.v] := c5
  have q6 : [x6] = [.bool a6] := c6
  injection q0 with q0
  injection q1 with q1
  injection q2 with q2
  injection q3 with q3
  injection q4 with q4
  injection q5 with q5
  injection q6 with q6
  subst q0 q1 q2 q3 q4 q5 q6
  rfl
theorem open_ops28 {fuel : Nat} {a : Option Addr} {len cap : Nat} {x : DataW H × List MemPlace} (h : DataW.trod enc Try.prog w base spare held fuel 49 [.slice a len cap] = some x) : ∃ M : List OpM, OpsR w (.slice a len cap) M := by
  obtain ⟨s, L, e, h1, h2⟩ := open_op28 h
  have e1 : Value.slice a len cap = s.v := by injection e
  exact ops_of (by rw [e1]; exact h1) h2
end
end Go.Proofs.Ytdmidnmciaediaa
