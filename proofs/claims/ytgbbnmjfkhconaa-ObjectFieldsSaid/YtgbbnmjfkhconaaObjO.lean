/- Layer 17's calls that came in. No conditions. -/
import Derived.Test.YtgbbnmjfkhconaaAreO
namespace Go.Proofs.Ytgbbnmjfkhconaa
open Go.ChangeShapes Go.WideShapes Go.Deep Go.RowKit
set_option linter.unusedVariables false
set_option linter.unusedSimpArgs false
/-- A call: kind, place, field, target, number, a shape's two. -/
structure Op17 where
  k : Int
  a : Int
  f : Int
  t : Int
  v : Int
  r : Int
  n : Int
def op17 : Elt Op17 where
  cells := fun o => [.int .i64 o.k, .int .i64 o.a, .int .i64 o.f, .int .i64 o.t, .int .u64 o.v, .int .i64 o.r, .int .i64 o.n]
  size := 7
  pos := by decide
  len := fun _ => rfl
  one := fun o u hu => by
    simp only [List.mem_cons, List.not_mem_nil, or_false] at hu
    rcases hu with rfl | rfl | rfl | rfl | rfl | rfl | rfl <;> rfl
def Good17 (o : Op17) : Prop := (0 ≤ o.v ∧ o.v < 18446744073709551616) ∧ (-9223372036854775808 ≤ o.t ∧ o.t ≤ 9223372036854775807) ∧ (-9223372036854775808 ≤ o.k ∧ o.k ≤ 9223372036854775807)
section
variable {H : Type} {enc : TypeId × Value → H} {w : World} {base : Nat} {spare : Nat → Bool} {held : Bool}
set_option maxRecDepth 100000 in
theorem open_op17 {n : Nat} {cs : List Value} {x : DataW H × List MemPlace} (h : DataW.trod enc Try.prog w base spare held n 73 cs = some x) : ∃ (s : Sl3) (L : List _), cs = [s.v] ∧ ReadR op17 w s.v L ∧ ∀ i ∈ L, Good17 i := by
  refine open_rows3 op17 Good17 Try.underlying73 (by kernel_rfl) (fun n cs y htr hl => ?_) h
  obtain ⟨ys, n', _, _, _, hyl, hf⟩ := DataW.trod_struct Try.underlying78 htr
  have g : ∀ j, j < 6 → ∃ y, ys[j]? = some y := fun j hj => ⟨_, List.getElem?_eq_getElem (by rw [hyl]; exact hj)⟩
  have f0 := hf 0 _ rfl
  have f1 := hf 1 _ rfl
  have f2 := hf 2 _ rfl
  have f3 := hf 3 _ rfl
  have f4 := hf 4 _ rfl
  have f5 := hf 5 _ rfl
  obtain ⟨y0, e0⟩ := g 0 (by omega)
  obtain ⟨y1, e1⟩ := g 1 (by omega)
  obtain ⟨y2, e2⟩ := g 2 (by omega)
  obtain ⟨y3, e3⟩ := g 3 (by omega)
  obtain ⟨y4, e4⟩ := g 4 (by omega)
  obtain ⟨y5, e5⟩ := g 5 (by omega)
  rw [e0] at f0
  rw [e1] at f1
  rw [e2] at f2
  rw [e3] at f3
  rw [e4] at f4
  rw [e5] at f5
  obtain ⟨a0, c0, lo0, hi0⟩ := open_i64 Try.underlying3 f0
  obtain ⟨a1, c1, lo1, hi1⟩ := open_i64 Try.underlying3 f1
  obtain ⟨a2, c2, lo2, hi2⟩ := open_i64 Try.underlying3 f2
  obtain ⟨a3, c3, lo3, hi3⟩ := open_i64 Try.underlying3 f3
  obtain ⟨a4, c4, lo4, hi4⟩ := open_u64 Try.underlying43 f4
  obtain ⟨zs, n'', _, _, _, hzl, hg⟩ := DataW.trod_struct Try.underlying23 f5
  have g' : ∀ j, j < 2 → ∃ y, zs[j]? = some y := fun j hj => ⟨_, List.getElem?_eq_getElem (by rw [hzl]; exact hj)⟩
  have f6 := hg 0 _ rfl
  have f7 := hg 1 _ rfl
  obtain ⟨y6, e6⟩ := g' 0 (by omega)
  obtain ⟨y7, e7⟩ := g' 1 (by omega)
  rw [e6] at f6
  rw [e7] at f7
  obtain ⟨a5, c5, lo5, hi5⟩ := open_i64 Try.underlying3 f6
  obtain ⟨a6, c6, lo6, hi6⟩ := open_i64 Try.underlying3 f7
  refine ⟨⟨a0, a1, a2, a3, a4, a5, a6⟩, ?_, ⟨⟨lo4, by show a4 < _; omega⟩, ⟨by show _ ≤ a3; omega, by show a3 ≤ _; omega⟩, ⟨by show _ ≤ a0; omega, by show a0 ≤ _; omega⟩⟩⟩
  have hl' : cs.length = 7 := hl
  obtain ⟨x0, x1, x2, x3, x4, x5, x6, rfl⟩ : ∃ x0 x1 x2 x3 x4 x5 x6, cs = [x0, x1, x2, x3, x4, x5, x6] := by
    match cs, hl' with
    | [x0, x1, x2, x3, x4, x5, x6], _ => exact ⟨x0, x1, x2, x3, x4, x5, x6, rfl⟩
  have q0 : [x0] = [.int .i64 a0] := c0
  have q1 : [x1] = [.int .i64 a1] := c1
  have q2 : [x2] = [.int .i64 a2] := c2
  have q3 : [x3] = [.int .i64 a3] := c3
  have q4 : [x4] = [.int .u64 a4] := c4
  have q5 : [x5] = [.int .i64 a5] := c5
  have q6 : [x6] = [.int .i64 a6] := c6
  injection q0 with q0
  injection q1 with q1
  injection q2 with q2
  injection q3 with q3
  injection q4 with q4
  injection q5 with q5
  injection q6 with q6
  subst q0 q1 q2 q3 q4 q5 q6
  rfl
theorem open_ops17 {fuel : Nat} {a : Option Addr} {len cap : Nat} {x : DataW H × List MemPlace} (h : DataW.trod enc Try.prog w base spare held fuel 73 [.slice a len cap] = some x) : ∃ L : List Op17, ReadR op17 w (.slice a len cap) L ∧ ∀ t ∈ L, Good17 t := by
  obtain ⟨s, L, e, h1, h2⟩ := open_op17 h
  have e1 : Value.slice a len cap = s.v := by injection e
  exact ⟨L, by rw [e1]; exact h1, h2⟩
end
end Go.Proofs.Ytgbbnmjfkhconaa
