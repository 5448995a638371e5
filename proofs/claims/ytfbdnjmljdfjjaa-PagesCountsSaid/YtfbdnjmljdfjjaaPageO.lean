/- Layer 4's calls that came in. No conditions. -/
import Derived.Test.YtfbdnjmljdfjjaaOpenRow
import Derived.Test.YtfbdnjmljdfjjaaPageA
namespace Go.Proofs.Ytfbdnjmljdfjjaa
open Go.ChangeShapes Go.WideShapes Go.Deep Go.RowKit
set_option linter.unusedVariables false
set_option linter.unusedSimpArgs false
def opE : Elt OpP where
  cells := fun o => [.int .i64 o.k, .int .i64 o.a, .int .i64 o.lo, .int .i64 o.hi, .int .i64 o.r.k, .int .i64 o.r.c, .int .i64 o.r.o, .int .i64 o.r.n]
  size := 8
  pos := by decide
  len := fun _ => rfl
  one := fun r u hu => by
    simp only [List.mem_cons, List.not_mem_nil, or_false] at hu
    rcases hu with rfl | rfl | rfl | rfl | rfl | rfl | rfl | rfl <;> rfl
def GoodO (o : OpP) : Prop := InR o.a
theorem open_ops {H : Type} {enc : TypeId × Value → H} {w : World} {base : Nat} {spare : Nat → Bool} {held : Bool} {fuel : Nat} {a : Option Addr} {len cap : Nat} {x : DataW H × List MemPlace}
    (h : DataW.trod enc Try.prog w base spare held fuel 22 [.slice a len cap] = some x) : ∃ L : List OpP, ReadR opE w (.slice a len cap) L ∧ ∀ o ∈ L, GoodO o := by
  refine open_rows opE GoodO Try.underlying22 (by kernel_rfl) (fun n cs y htr hl => ?_) h
  obtain ⟨ys, n', _, _, _, hyl, hf⟩ := DataW.trod_struct Try.underlying30 htr
  have f0 := hf 0 _ rfl
  have f1 := hf 1 _ rfl
  have f2 := hf 2 _ rfl
  have f3 := hf 3 _ rfl
  have f4 := hf 4 _ rfl
  have g : ∀ j, j < 5 → ∃ y, ys[j]? = some y := fun j hj => ⟨_, List.getElem?_eq_getElem (by rw [hyl]; exact hj)⟩
  obtain ⟨y0, e0⟩ := g 0 (by omega)
  obtain ⟨y1, e1⟩ := g 1 (by omega)
  obtain ⟨y2, e2⟩ := g 2 (by omega)
  obtain ⟨y3, e3⟩ := g 3 (by omega)
  obtain ⟨y4, e4⟩ := g 4 (by omega)
  rw [e0] at f0; rw [e1] at f1; rw [e2] at f2; rw [e3] at f3; rw [e4] at f4
  obtain ⟨a0, c0, _, _⟩ := open_i64 Try.underlying3 f0
  obtain ⟨a1, c1, l1, u1⟩ := open_i64 Try.underlying3 f1
  obtain ⟨a2, c2, _, _⟩ := open_i64 Try.underlying3 f2
  obtain ⟨a3, c3, _, _⟩ := open_i64 Try.underlying3 f3
  obtain ⟨zs, n2, _, _, _, hzl, hg⟩ := DataW.trod_struct Try.underlying28 f4
  have p0 := hg 0 _ rfl
  have p1 := hg 1 _ rfl
  have p2 := hg 2 _ rfl
  have p3 := hg 3 _ rfl
  have g' : ∀ j, j < 4 → ∃ y, zs[j]? = some y := fun j hj => ⟨_, List.getElem?_eq_getElem (by rw [hzl]; exact hj)⟩
  obtain ⟨y5, e5⟩ := g' 0 (by omega)
  obtain ⟨y6, e6⟩ := g' 1 (by omega)
  obtain ⟨y7, e7⟩ := g' 2 (by omega)
  obtain ⟨y8, e8⟩ := g' 3 (by omega)
  rw [e5] at p0; rw [e6] at p1; rw [e7] at p2; rw [e8] at p3
  obtain ⟨b0, d0, _, _⟩ := open_i64 Try.underlying3 p0
  obtain ⟨b1, d1, _, _⟩ := open_i64 Try.underlying3 p1
  obtain ⟨b2, d2, _, _⟩ := open_i64 Try.underlying3 p2
  obtain ⟨b3, d3, _, _⟩ := open_i64 Try.underlying3 p3
  refine ⟨⟨a0, a1, a2, a3, ⟨b0, b1, b2, b3⟩⟩, ?_, ⟨l1, u1⟩⟩
  have hl8 : cs.length = 8 := hl
  obtain ⟨x0, x1, x2, x3, x4, x5, x6, x7, rfl⟩ : ∃ x0 x1 x2 x3 x4 x5 x6 x7, cs = [x0, x1, x2, x3, x4, x5, x6, x7] := by
    match cs, hl8 with
    | [x0, x1, x2, x3, x4, x5, x6, x7], _ => exact ⟨x0, x1, x2, x3, x4, x5, x6, x7, rfl⟩
  have q0 : [x0] = [.int .i64 a0] := c0
  have q1 : [x1] = [.int .i64 a1] := c1
  have q2 : [x2] = [.int .i64 a2] := c2
  have q3 : [x3] = [.int .i64 a3] := c3
  have q4 : [x4] = [.int .i64 b0] := d0
  have q5 : [x5] = [.int .i64 b1] := d1
  have q6 : [x6] = [.int .i64 b2] := d2
  have q7 : [x7] = [.int .i64 b3] := d3
  injection q0 with q0; injection q1 with q1; injection q2 with q2; injection q3 with q3
  injection q4 with q4; injection q5 with q5; injection q6 with q6; injection q7 with q7
  subst q0 q1 q2 q3 q4 q5 q6 q7
  rfl
end Go.Proofs.Ytfbdnjmljdfjjaa
