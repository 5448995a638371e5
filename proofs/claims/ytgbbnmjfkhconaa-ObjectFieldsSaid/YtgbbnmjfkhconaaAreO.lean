/- Layer 3's acts and calls that came in. Printed by mkopen.py. No conditions. -/
import Derived.Test.YtgbbnmjfkhconaaOpenRow
import Derived.Test.YtgbbnmjfkhconaaAreX
namespace Go.Proofs.Ytgbbnmjfkhconaa
open Go.ChangeShapes Go.WideShapes Go.Deep Go.RowKit
set_option linter.unusedVariables false
set_option linter.unusedSimpArgs false
/-- A slice, as three. -/
structure Sl3 where
  a : Option Addr
  n : Nat
  c : Nat
def Sl3.v (s : Sl3) : Value := .slice s.a s.n s.c
/-- A call: kind, place, number, byte, word, bytes, acts. -/
structure OpA where
  k : Int
  a : Int
  n : Int
  c : Int
  x : Int
  b : Sl3
  t : Sl3
def opA : Elt OpA where
  cells := fun o => [.int .i64 o.k, .int .i64 o.a, .int .i64 o.n, .int .u8 o.c, .int .u64 o.x, o.b.v, o.t.v]
  size := 7
  pos := by decide
  len := fun _ => rfl
  one := fun o u hu => by
    simp only [List.mem_cons, List.not_mem_nil, or_false] at hu
    rcases hu with rfl | rfl | rfl | rfl | rfl | rfl | rfl <;> rfl
def GoodO (w : World) (o : OpA) : Prop := (0 ≤ o.c ∧ o.c < 256) ∧ (0 ≤ o.x ∧ o.x < 18446744073709551616) ∧ (∃ M, ReadB w o.b.v M ∧ IsBytes M) ∧ ∃ A, ReadR actR w o.t.v A ∧ ∀ t ∈ A, GoodA t
section
variable {H : Type} {enc : TypeId × Value → H} {w : World} {base : Nat} {spare : Nat → Bool} {held : Bool}
theorem open_u8 {P : Program} {t : TypeId} {n : Nat} {cs : List Value} {y : DataW H × List MemPlace} (ht : P.underlying t = some (.int .u8)) (h : DataW.trod enc P w base spare held n t cs = some y) : ∃ a : Int, cs = [.int .u8 a] ∧ 0 ≤ a ∧ a < 256 := by
  obtain ⟨a, e, _, hw⟩ := DataW.trod_int ht h
  have := bounds_u8 hw
  exact ⟨a, e, this.1, by omega⟩
theorem open_rows3 {P : Program} {α : Type} (c : Elt α) (good : α → Prop) {t e : TypeId} {fuel : Nat} {cs : List Value} {x : DataW H × List MemPlace} (ht : P.underlying t = some (.slice e)) (hC : P.cellsOf e = c.size)
    (hel : ∀ n cs y, DataW.trod enc P w base spare held n e cs = some y → cs.length = c.size → ∃ z : α, cs = c.cells z ∧ good z)
    (h : DataW.trod enc P w base spare held fuel t cs = some x) : ∃ (s : Sl3) (L : List α), cs = [s.v] ∧ ReadR c w s.v L ∧ ∀ z ∈ L, good z := by
  have hcs : ∃ a n cap, cs = [.slice a n cap] := by
    rcases open_slice ht h with ⟨hcs, _⟩ | ⟨x, l, cp, m, n, D, Pl, hcs, _⟩
    · exact ⟨none, 0, 0, hcs⟩
    · exact ⟨some x, l, cp, hcs⟩
  obtain ⟨a, n, cap, rfl⟩ := hcs
  obtain ⟨L, h1, h2⟩ := open_rows c good ht hC hel h
  exact ⟨⟨a, n, cap⟩, L, rfl, h1, h2⟩
theorem open_bytes3 {n : Nat} {cs : List Value} {x : DataW H × List MemPlace} (h : DataW.trod enc Try.prog w base spare held n 31 cs = some x) : ∃ (s : Sl3) (L : List Int), cs = [s.v] ∧ ReadB w s.v L ∧ IsBytes L := by
  obtain ⟨s, L, h1, h2, h3⟩ := open_rows3 byE (fun x => 0 ≤ x ∧ x < 256) Try.underlying31 (by kernel_rfl) (fun n cs y htr hl => by
    obtain ⟨a, e, h1, h2⟩ := open_u8 Try.underlying5 htr
    exact ⟨a, e, h1, h2⟩) h
  exact ⟨s, L, h1, readR_B h2, h3⟩
set_option maxRecDepth 100000 in
theorem open_acts3 {n : Nat} {cs : List Value} {x : DataW H × List MemPlace} (h : DataW.trod enc Try.prog w base spare held n 32 cs = some x) : ∃ (s : Sl3) (L : List _), cs = [s.v] ∧ ReadR actR w s.v L ∧ ∀ i ∈ L, (GoodA) i := by
  refine open_rows3 actR (GoodA) Try.underlying32 (by kernel_rfl) (fun n cs y htr hl => ?_) h
  obtain ⟨ys, n', _, _, _, hyl, hf⟩ := DataW.trod_struct Try.underlying45 htr
  have f0 := hf 0 _ rfl
  have f1 := hf 1 _ rfl
  have f2 := hf 2 _ rfl
  have g : ∀ j, j < 3 → ∃ y, ys[j]? = some y := fun j hj => ⟨_, List.getElem?_eq_getElem (by rw [hyl]; exact hj)⟩
  obtain ⟨y0, e0⟩ := g 0 (by omega)
  obtain ⟨y1, e1⟩ := g 1 (by omega)
  obtain ⟨y2, e2⟩ := g 2 (by omega)
  rw [e0] at f0
  rw [e1] at f1
  rw [e2] at f2
  obtain ⟨a0, c0, lo0, hi0⟩ := open_i64 Try.underlying3 f0
  obtain ⟨a1, c1, lo1, hi1⟩ := open_i64 Try.underlying3 f1
  obtain ⟨a2, c2, lo2, hi2⟩ := open_u64 Try.underlying43 f2
  refine ⟨⟨a0, a1, a2⟩, ?_, ⟨lo2, by show a2 < _; omega⟩⟩
  have hl' : cs.length = 3 := hl
  obtain ⟨x0, x1, x2, rfl⟩ : ∃ x0 x1 x2, cs = [x0, x1, x2] := by
    match cs, hl' with
    | [x0, x1, x2], _ => exact ⟨x0, x1, x2, rfl⟩
  have q0 : [x0] = [.int .i64 a0] := c0
  have q1 : [x1] = [.int .i64 a1] := c1
  have q2 : [x2] = [.int .u64 a2] := c2
  injection q0 with q0
  injection q1 with q1
  injection q2 with q2
  subst q0 q1 q2
  rfl
set_option maxRecDepth 100000 in
theorem open_ops3 {n : Nat} {cs : List Value} {x : DataW H × List MemPlace} (h : DataW.trod enc Try.prog w base spare held n 52 cs = some x) : ∃ (s : Sl3) (L : List _), cs = [s.v] ∧ ReadR opA w s.v L ∧ ∀ i ∈ L, (GoodO w) i := by
  refine open_rows3 opA (GoodO w) Try.underlying52 (by kernel_rfl) (fun n cs y htr hl => ?_) h
  obtain ⟨ys, n', _, _, _, hyl, hf⟩ := DataW.trod_struct Try.underlying55 htr
  have f0 := hf 0 _ rfl
  have f1 := hf 1 _ rfl
  have f2 := hf 2 _ rfl
  have f3 := hf 3 _ rfl
  have f4 := hf 4 _ rfl
  have f5 := hf 5 _ rfl
  have f6 := hf 6 _ rfl
  have g : ∀ j, j < 7 → ∃ y, ys[j]? = some y := fun j hj => ⟨_, List.getElem?_eq_getElem (by rw [hyl]; exact hj)⟩
  obtain ⟨y0, e0⟩ := g 0 (by omega)
  obtain ⟨y1, e1⟩ := g 1 (by omega)
  obtain ⟨y2, e2⟩ := g 2 (by omega)
  obtain ⟨y3, e3⟩ := g 3 (by omega)
  obtain ⟨y4, e4⟩ := g 4 (by omega)
  obtain ⟨y5, e5⟩ := g 5 (by omega)
  obtain ⟨y6, e6⟩ := g 6 (by omega)
  rw [e0] at f0
  rw [e1] at f1
  rw [e2] at f2
  rw [e3] at f3
  rw [e4] at f4
  rw [e5] at f5
  rw [e6] at f6
  obtain ⟨a0, c0, lo0, hi0⟩ := open_i64 Try.underlying3 f0
  obtain ⟨a1, c1, lo1, hi1⟩ := open_i64 Try.underlying3 f1
  obtain ⟨a2, c2, lo2, hi2⟩ := open_i64 Try.underlying3 f2
  obtain ⟨a3, c3, lo3, hi3⟩ := open_u8 Try.underlying5 f3
  obtain ⟨a4, c4, lo4, hi4⟩ := open_u64 Try.underlying43 f4
  obtain ⟨s5, l5, c5, r5, m5⟩ := open_bytes3 f5
  obtain ⟨s6, l6, c6, r6, m6⟩ := open_acts3 f6
  refine ⟨⟨a0, a1, a2, a3, a4, s5, s6⟩, ?_, ⟨⟨lo3, hi3⟩, ⟨lo4, by show a4 < _; omega⟩, ⟨l5, r5, m5⟩, l6, r6, m6⟩⟩
  have hl' : cs.length = 7 := hl
  obtain ⟨x0, x1, x2, x3, x4, x5, x6, rfl⟩ : ∃ x0 x1 x2 x3 x4 x5 x6, cs = [x0, x1, x2, x3, x4, x5, x6] := by
    match cs, hl' with
    | [x0, x1, x2, x3, x4, x5, x6], _ => exact ⟨x0, x1, x2, x3, x4, x5, x6, rfl⟩
  have q0 : [x0] = [.int .i64 a0] := c0
  have q1 : [x1] = [.int .i64 a1] := c1
  have q2 : [x2] = [.int .i64 a2] := c2
  have q3 : [x3] = [.int .u8 a3] := c3
  have q4 : [x4] = [.int .u64 a4] := c4
  have q5 : [x5] = [s5.v] := c5
  have q6 : [x6] = [s6.v] := c6
  injection q0 with q0
  injection q1 with q1
  injection q2 with q2
  injection q3 with q3
  injection q4 with q4
  injection q5 with q5
  injection q6 with q6
  subst q0 q1 q2 q3 q4 q5 q6
  rfl
theorem open_acts {fuel : Nat} {a : Option Addr} {len cap : Nat} {x : DataW H × List MemPlace} (h : DataW.trod enc Try.prog w base spare held fuel 32 [.slice a len cap] = some x) : ∃ L : List ActM, ReadR actR w (.slice a len cap) L ∧ ∀ t ∈ L, GoodA t := by
  obtain ⟨s, L, e, h1, h2⟩ := open_acts3 h
  have e1 : Value.slice a len cap = s.v := by injection e
  exact ⟨L, by rw [e1]; exact h1, h2⟩
theorem open_opsA {fuel : Nat} {a : Option Addr} {len cap : Nat} {x : DataW H × List MemPlace} (h : DataW.trod enc Try.prog w base spare held fuel 52 [.slice a len cap] = some x) : ∃ L : List OpA, ReadR opA w (.slice a len cap) L ∧ ∀ t ∈ L, GoodO w t := by
  obtain ⟨s, L, e, h1, h2⟩ := open_ops3 h
  have e1 : Value.slice a len cap = s.v := by injection e
  exact ⟨L, by rw [e1]; exact h1, h2⟩
end
end Go.Proofs.Ytgbbnmjfkhconaa
