/- A program that came in reads as lists. No conditions. -/
import Derived.Test.YtdmidnmciaediaaYOpenRow
import Derived.Test.YtdmidnmciaediaaYBytM
namespace Go.Proofs.Ytdmidnmciaediaa
open Go.ChangeShapes Go.WideShapes Go.Deep Go.RowKit
set_option linter.unusedVariables false
set_option linter.unusedSimpArgs false
section
variable {H : Type} {enc : TypeId × Value → H} {w : World} {base : Nat} {spare : Nat → Bool} {held : Bool}
theorem open_rows2 {P : Program} {α : Type} (c : Elt α) (good : α → Prop) {t e : TypeId} {fuel : Nat} {cs : List Value} {x : DataW H × List MemPlace} (ht : P.underlying t = some (.slice e)) (hC : P.cellsOf e = c.size)
    (hel : ∀ n cs y, DataW.trod enc P w base spare held n e cs = some y → cs.length = c.size → ∃ z : α, cs = c.cells z ∧ good z)
    (h : DataW.trod enc P w base spare held fuel t cs = some x) : ∃ (s : Sl) (L : List α), cs = [s.v] ∧ ReadR c w s.v L ∧ ∀ z ∈ L, good z := by
  have hcs : ∃ a n cap, cs = [.slice a n cap] := by
    rcases open_slice ht h with ⟨hcs, _⟩ | ⟨x, l, cp, m, n, D, Pl, hcs, _⟩
    · exact ⟨none, 0, 0, hcs⟩
    · exact ⟨some x, l, cp, hcs⟩
  obtain ⟨a, n, cap, rfl⟩ := hcs
  obtain ⟨L, h1, h2⟩ := open_rows c good ht hC hel h
  exact ⟨⟨a, n, cap⟩, L, rfl, h1, h2⟩
theorem open_ints25 {n : Nat} {cs : List Value} {x : DataW H × List MemPlace} (h : DataW.trod enc Try.prog w base spare held n 22 cs = some x) : ∃ (s : Sl) (L : List Int), cs = [s.v] ∧ ReadI w s.v L := by
  obtain ⟨s, L, h1, h2, _⟩ := open_rows2 intE (fun _ => True) Try.underlying22 (by kernel_rfl) (fun n cs y htr hl => by
    obtain ⟨a, e, _⟩ := open_i64 Try.underlying3 htr
    exact ⟨a, e, trivial⟩) h
  exact ⟨s, L, h1, readR_I h2⟩
set_option maxRecDepth 100000 in
theorem open_ins25 {n : Nat} {cs : List Value} {x : DataW H × List MemPlace} (h : DataW.trod enc Try.prog w base spare held n 33 cs = some x) : ∃ (s : Sl) (L : List In4), cs = [s.v] ∧ ReadR inE w s.v L ∧ ∀ i ∈ L, GoodIn i := by
  refine open_rows2 inE GoodIn Try.underlying33 (by kernel_rfl) (fun n cs y htr hl => ?_) h
  obtain ⟨ys, n', _, _, _, hyl, hf⟩ := DataW.trod_struct Try.underlying98 htr
  have f0 := hf 0 _ rfl
  have f1 := hf 1 _ rfl
  have f2 := hf 2 _ rfl
  have f3 := hf 3 _ rfl
  have g : ∀ j, j < 4 → ∃ y, ys[j]? = some y := fun j hj => ⟨_, List.getElem?_eq_getElem (by rw [hyl]; exact hj)⟩
  obtain ⟨y0, e0⟩ := g 0 (by omega)
  obtain ⟨y1, e1⟩ := g 1 (by omega)
  obtain ⟨y2, e2⟩ := g 2 (by omega)
  obtain ⟨y3, e3⟩ := g 3 (by omega)
  rw [e0] at f0; rw [e1] at f1; rw [e2] at f2; rw [e3] at f3
  obtain ⟨a0, c0, _, _⟩ := open_i64 Try.underlying3 f0
  obtain ⟨a1, c1, l1, u1⟩ := open_u64 Try.underlying39 f1
  obtain ⟨a2, c2, _, _⟩ := open_i64 Try.underlying3 f2
  obtain ⟨a3, c3, _, _⟩ := open_i64 Try.underlying3 f3
  refine ⟨⟨a0, a1, a2, a3⟩, ?_, ⟨l1, by show a1 < _; omega⟩⟩
  have hl4 : cs.length = 4 := hl
  obtain ⟨x0, x1, x2, x3, rfl⟩ : ∃ x0 x1 x2 x3, cs = [x0, x1, x2, x3] := by
    match cs, hl4 with
    | [x0, x1, x2, x3], _ => exact ⟨x0, x1, x2, x3, rfl⟩
  have q0 : [x0] = [.int .i64 a0] := c0
  have q1 : [x1] = [.int .u64 a1] := c1
  have q2 : [x2] = [.int .i64 a2] := c2
  have q3 : [x3] = [.int .i64 a3] := c3
  injection q0 with q0; injection q1 with q1; injection q2 with q2; injection q3 with q3
  subst q0 q1 q2 q3
  rfl
def GoodF (w : World) (v : FnV) : Prop := ∃ f, DeepF w v f ∧ ∀ i ∈ f.code, GoodIn i
set_option maxRecDepth 100000 in
theorem open_fns25 {n : Nat} {cs : List Value} {x : DataW H × List MemPlace} (h : DataW.trod enc Try.prog w base spare held n 23 cs = some x) : ∃ (s : Sl) (L : List FnV), cs = [s.v] ∧ ReadR fnE w s.v L ∧ ∀ v ∈ L, GoodF w v := by
  refine open_rows2 fnE (GoodF w) Try.underlying23 (by kernel_rfl) (fun n cs y htr hl => ?_) h
  obtain ⟨ys, n', _, _, _, hyl, hf⟩ := DataW.trod_struct Try.underlying35 htr
  have f0 := hf 0 _ rfl
  have f1 := hf 1 _ rfl
  have f2 := hf 2 _ rfl
  have f3 := hf 3 _ rfl
  have g : ∀ j, j < 4 → ∃ y, ys[j]? = some y := fun j hj => ⟨_, List.getElem?_eq_getElem (by rw [hyl]; exact hj)⟩
  obtain ⟨y0, e0⟩ := g 0 (by omega)
  obtain ⟨y1, e1⟩ := g 1 (by omega)
  obtain ⟨y2, e2⟩ := g 2 (by omega)
  obtain ⟨y3, e3⟩ := g 3 (by omega)
  rw [e0] at f0; rw [e1] at f1; rw [e2] at f2; rw [e3] at f3
  obtain ⟨s0, l0, c0, r0⟩ := open_ints25 f0
  obtain ⟨s1, l1, c1, r1⟩ := open_ints25 f1
  obtain ⟨a2, c2, _, _⟩ := open_i64 Try.underlying3 f2
  obtain ⟨s3, l3, c3, r3, g3⟩ := open_ins25 f3
  refine ⟨⟨s0, s1, a2, s3⟩, ?_, ⟨⟨l0, l1, a2, l3⟩, ⟨r0, r1, rfl, r3⟩, g3⟩⟩
  have hl4 : cs.length = 4 := hl
  obtain ⟨x0, x1, x2, x3, rfl⟩ : ∃ x0 x1 x2 x3, cs = [x0, x1, x2, x3] := by
    match cs, hl4 with
    | [x0, x1, x2, x3], _ => exact ⟨x0, x1, x2, x3, rfl⟩
  have q0 : [x0] = [s0.v] := c0
  have q1 : [x1] = [s1.v] := c1
  have q2 : [x2] = [.int .i64 a2] := c2
  have q3 : [x3] = [s3.v] := c3
  injection q0 with q0; injection q1 with q1; injection q2 with q2; injection q3 with q3
  subst q0 q1 q2 q3
  rfl
theorem allF_good {w : World} : ∀ {L : List FnV}, (∀ v ∈ L, GoodF w v) → ∃ fs, AllF w L fs ∧ ∀ f ∈ fs, ∀ i ∈ f.code, GoodIn i
  | [], _ => ⟨[], trivial, fun f hf => by cases hf⟩
  | v :: l, h => by
    obtain ⟨f, h1, h2⟩ := h v (List.mem_cons_self ..)
    obtain ⟨fs, h3, h4⟩ := allF_good (L := l) (fun u hu => h u (List.mem_cons_of_mem _ hu))
    exact ⟨f :: fs, ⟨h1, h3⟩, fun g hg i hi => by
      rcases List.mem_cons.1 hg with rfl | hg
      · exact h2 i hi
      · exact h4 g hg i hi⟩
theorem open_prog25 {v0 v1 v2 v3 : Value} {y0 y1 y2 y3 : DataW H × List MemPlace} {n : Nat} (h0 : DataW.trod enc Try.prog w base spare held n 4 [v0] = some y0) (h1 : DataW.trod enc Try.prog w base spare held n 22 [v1] = some y1)
    (h2 : DataW.trod enc Try.prog w base spare held n 3 [v2] = some y2) (h3 : DataW.trod enc Try.prog w base spare held n 23 [v3] = some y3) :
    ∃ (p : PrV) (P : PrM), v0 = .bool p.u ∧ v1 = .slice p.g.a p.g.n p.g.c ∧ v2 = .int .i64 p.m ∧ v3 = .slice p.f.a p.f.n p.f.c ∧ ReadP w p P ∧ GoodP P := by
  obtain ⟨u, c0, _⟩ := DataW.trod_bool Try.underlying4 h0
  obtain ⟨s1, gl, c1, r1⟩ := open_ints25 h1
  obtain ⟨m, c2, _, _⟩ := open_i64 Try.underlying3 h2
  obtain ⟨s3, L, c3, r3, g3⟩ := open_fns25 h3
  obtain ⟨fs, hA, hg⟩ := allF_good g3
  injection c0 with c0; injection c1 with c1; injection c2 with c2; injection c3 with c3
  exact ⟨⟨u, s1, m, s3⟩, ⟨u, gl, m, fs⟩, c0, c1, c2, c3, ⟨rfl, r1, rfl, L, r3, hA⟩, hg⟩
end
end Go.Proofs.Ytdmidnmciaediaa
