/- A slice that came in reads as a list of whatever its elements open as. Over any program. No conditions beside those stated. A program that came in reads as lists. No conditions. -/
import Derived.Test.YtedmjlhgpdeafaaDoorQRow
import Derived.Deep.Slices
import Derived.Deep.Fields
import Derived.ChangeSame
import Derived.ChangeOld
import Derived.Test.YtedmjlhgpdeafaaDoorQBytM
namespace Go.Proofs.YtedmjlhgpdeafaaDoor
open Go.ChangeShapes Go.WideShapes Go.Deep Go.RowKit
set_option linter.unusedVariables false
set_option linter.unusedSimpArgs false
section
variable {H : Type} {enc : TypeId × Value → H} {P : Program} {w : World} {base : Nat} {spare : Nat → Bool} {held : Bool}
theorem open_rows {α : Type} (c : Elt α) (good : α → Prop) {t e : TypeId} {fuel : Nat} {a : Option Addr} {len cap : Nat} {x : DataW H × List MemPlace} (ht : P.underlying t = some (.slice e)) (hC : P.cellsOf e = c.size)
    (hel : ∀ n cs y, DataW.trod enc P w base spare held n e cs = some y → cs.length = c.size → ∃ z : α, cs = c.cells z ∧ good z)
    (h : DataW.trod enc P w base spare held fuel t [.slice a len cap] = some x) : ∃ L : List α, ReadR c w (.slice a len cap) L ∧ ∀ z ∈ L, good z := by
  rcases open_slice ht h with ⟨hcs, _⟩ | ⟨x, l, cp, m, n, D, Pl, hcs, _, hl, hm, hmm, _, hi⟩
  · simp at hcs
    obtain ⟨rfl, rfl, rfl⟩ := hcs
    exact ⟨[], readR_nil w, fun z hz => by cases hz⟩
  · simp at hcs
    obtain ⟨rfl, rfl, rfl⟩ := hcs
    have key : ∀ i, i < len → ∃ z : α, good z ∧ ∀ j, j < c.size → w.cell? (x.add (i * c.size + j)) = (c.cells z)[j]? := fun i hlt => by
      obtain ⟨cs', hc, htr⟩ := hi i (by rw [hmm]; split <;> omega)
      rw [hC] at hc
      obtain ⟨_, hcl, hat⟩ := World.cells?_some hc
      obtain ⟨z, rfl, hg⟩ := hel _ _ _ htr hcl
      exact ⟨z, hg, fun j hj => by rw [← Go.Deep.add_add]; exact hat j hj⟩
    have all : ∀ n, n ≤ len → ∃ L : List α, L.length = n ∧ (∀ z ∈ L, good z) ∧ ∀ k, (hk : k < L.length) → ∀ j, j < c.size → w.cell? (x.add (k * c.size + j)) = (c.cells L[k])[j]? := by
      intro n
      induction n with
      | zero => exact fun _ => ⟨[], rfl, (fun z hz => by cases hz), fun k hk => by simp at hk⟩
      | succ n ih =>
        intro hn
        obtain ⟨L, h1, h2, h3⟩ := ih (by omega)
        obtain ⟨z, hg, hz⟩ := key n (by omega)
        refine ⟨L ++ [z], by simp [h1], fun y hy => ?_, fun k hk j hj => ?_⟩
        · rcases List.mem_append.1 hy with q | q
          · exact h2 y q
          · rw [List.mem_singleton.1 q]; exact hg
        · rcases Nat.lt_or_ge k L.length with q | q
          · rw [List.getElem_append_left q]; exact h3 k q j hj
          · have e : k = L.length := by simp at hk; omega
            subst e
            rw [List.getElem_append_right (Nat.le_refl _)]
            simp only [Nat.sub_self, List.getElem_cons_zero]
            rw [h1]; exact hz j hj
    obtain ⟨L, h1, h2, h3⟩ := all len (Nat.le_refl _)
    refine ⟨L, ?_, h2⟩
    subst h1
    refine ⟨some x, cap, rfl, hl, hm, (fun h => by cases h), fun hp => ?_⟩
    have h0 := h3 0 hp 0 c.pos
    obtain ⟨b, o, spot⟩ := x
    have hc0 : ∃ u, (c.cells L[0])[0]? = some u := ⟨_, List.getElem?_eq_getElem (by rw [c.len]; exact c.pos)⟩
    obtain ⟨u, hu⟩ := hc0
    rw [hu] at h0
    have hspot : spot = none := by simpa [Addr.add] using World.cell?_spot h0
    subst hspot
    refine ⟨b, o, rfl, ?_, fun k hk j hj => ?_⟩
    · have := World.block_lt_of_cell? w _ h0
      simpa [Addr.add] using this
    · have := h3 k hk j hj
      rwa [Addr.add_lit] at this
/-- An int that came in. -/
theorem open_i64 {t : TypeId} {n : Nat} {cs : List Value} {y : DataW H × List MemPlace} (ht : P.underlying t = some (.int .i64)) (h : DataW.trod enc P w base spare held n t cs = some y) : ∃ a : Int, cs = [.int .i64 a] ∧ -9223372036854775808 ≤ a ∧ a ≤ 9223372036854775807 := by
  obtain ⟨a, e, _, wa⟩ := DataW.trod_int ht h
  have b := bounds_i64 wa
  exact ⟨a, e, by omega, by omega⟩
theorem open_u64 {t : TypeId} {n : Nat} {cs : List Value} {y : DataW H × List MemPlace} (ht : P.underlying t = some (.int .u64)) (h : DataW.trod enc P w base spare held n t cs = some y) : ∃ a : Int, cs = [.int .u64 a] ∧ 0 ≤ a ∧ a ≤ 18446744073709551615 := by
  obtain ⟨a, e, _, wa⟩ := DataW.trod_int ht h
  have b := bounds_u64 wa
  exact ⟨a, e, by omega, by omega⟩
end
section
variable {H : Type} {enc : TypeId × Value → H} {w : World} {base : Nat} {spare : Nat → Bool} {held : Bool}
theorem open_rows2 {P : Program} {α : Type} (c : Elt α) (good : α → Prop) {t e : TypeId} {fuel : Nat} {cs : List Value} {x : DataW H × List MemPlace} (ht : P.underlying t = some (.slice e)) (hC : P.cellsOf e = c.size)
    (hel : ∀ n cs y, DataW.trod enc P w base spare held n e cs = some y → cs.length = c.size → ∃ z : α, cs = c.cells z ∧ good z)
    (h : DataW.trod enc P w base spare held fuel t cs = some x) : ∃ (s : Sl) (L : List α), cs = [s.v] ∧ ReadR c w s.v L ∧ ∀ z ∈ L, good z := by
  have hcs : ∃ a n cap, cs = [.slice a n cap] := by
    rcases open_slice ht h with ⟨hcs, _⟩ | ⟨x, l, cp, m, n, D, Pl, hcs, _⟩
    · exact ⟨none, 0, 0, hcs⟩
    · exact ⟨some x, l, cp, hcs⟩
  obtain ⟨a, n, cap, rfl⟩ := hcs
  obtain ⟨L, h1, h2⟩ := open_rows c good ht hC hel h
  exact ⟨⟨a, n, cap⟩, L, rfl, h1, h2⟩
theorem open_ints25 {n : Nat} {cs : List Value} {x : DataW H × List MemPlace} (h : DataW.trod enc Tryd.prog w base spare held n 22 cs = some x) : ∃ (s : Sl) (L : List Int), cs = [s.v] ∧ ReadI w s.v L := by
  obtain ⟨s, L, h1, h2, _⟩ := open_rows2 intE (fun _ => True) Tryd.underlying22 (by kernel_rfl) (fun n cs y htr hl => by
    obtain ⟨a, e, _⟩ := open_i64 Tryd.underlying3 htr
    exact ⟨a, e, trivial⟩) h
  exact ⟨s, L, h1, readR_I h2⟩
set_option maxRecDepth 100000 in
theorem open_ins25 {n : Nat} {cs : List Value} {x : DataW H × List MemPlace} (h : DataW.trod enc Tryd.prog w base spare held n 58 cs = some x) : ∃ (s : Sl) (L : List In4), cs = [s.v] ∧ ReadR inE w s.v L ∧ ∀ i ∈ L, GoodIn i := by
  refine open_rows2 inE GoodIn Tryd.underlying58 (by kernel_rfl) (fun n cs y htr hl => ?_) h
  obtain ⟨ys, n', _, _, _, hyl, hf⟩ := DataW.trod_struct Tryd.underlying42 htr
  have f0 := hf 0 _ rfl
  have f1 := hf 1 _ rfl
  have f2 := hf 2 _ rfl
  have f3 := hf 3 _ rfl
  have g : ∀ j, j < 4 → ∃ y, ys[j]? = some y := fun j hj => ⟨_, List.getElem?_eq_getElem (by rw [hyl]; exact hj)⟩
  obtain ⟨y0, e0⟩ := g 0 (by omega)
  obtain ⟨y1, e1⟩ := g 1 (by omega)
  obtain ⟨y2, e2⟩ := g 2 (by omega)
  obtain ⟨y3, e3⟩ := g 3 (by omega)
  rw [e0] at f0; rw [e1] at f1; rw [e2] at f2; rw [e3] at f3
  obtain ⟨a0, c0, _, _⟩ := open_i64 Tryd.underlying3 f0
  obtain ⟨a1, c1, l1, u1⟩ := open_u64 Tryd.underlying40 f1
  obtain ⟨a2, c2, _, _⟩ := open_i64 Tryd.underlying3 f2
  obtain ⟨a3, c3, _, _⟩ := open_i64 Tryd.underlying3 f3
  refine ⟨⟨a0, a1, a2, a3⟩, ?_, ⟨l1, by show a1 < _; omega⟩⟩
  have hl4 : cs.length = 4 := hl
  obtain ⟨x0, x1, x2, x3, rfl⟩ : ∃ x0 x1 x2 x3, cs = [x0, x1, x2, x3] := by
    match cs, hl4 with
    | [x0, x1, x2, x3], _ => exact ⟨x0, x1, x2, x3, rfl⟩
  have q0 : [x0] = [.int .i64 a0] := c0
  have q1 : [x1] = [.int .u64 a1] := c1
  have q2 : [x2] = [.int .i64 a2] := c2
  have q3 : [x3] = [.int .i64 a3] := c3
  injection q0 with q0; injection q1 with q1; injection q2 with q2; injection q3 with q3
  subst q0 q1 q2 q3
  rfl
def GoodF (w : World) (v : FnV) : Prop := ∃ f, DeepF w v f ∧ ∀ i ∈ f.code, GoodIn i
set_option maxRecDepth 100000 in
theorem open_fns25 {n : Nat} {cs : List Value} {x : DataW H × List MemPlace} (h : DataW.trod enc Tryd.prog w base spare held n 23 cs = some x) : ∃ (s : Sl) (L : List FnV), cs = [s.v] ∧ ReadR fnE w s.v L ∧ ∀ v ∈ L, GoodF w v := by
  refine open_rows2 fnE (GoodF w) Tryd.underlying23 (by kernel_rfl) (fun n cs y htr hl => ?_) h
  obtain ⟨ys, n', _, _, _, hyl, hf⟩ := DataW.trod_struct Tryd.underlying60 htr
  have f0 := hf 0 _ rfl
  have f1 := hf 1 _ rfl
  have f2 := hf 2 _ rfl
  have f3 := hf 3 _ rfl
  have g : ∀ j, j < 4 → ∃ y, ys[j]? = some y := fun j hj => ⟨_, List.getElem?_eq_getElem (by rw [hyl]; exact hj)⟩
  obtain ⟨y0, e0⟩ := g 0 (by omega)
  obtain ⟨y1, e1⟩ := g 1 (by omega)
  obtain ⟨y2, e2⟩ := g 2 (by omega)
  obtain ⟨y3, e3⟩ := g 3 (by omega)
  rw [e0] at f0; rw [e1] at f1; rw [e2] at f2; rw [e3] at f3
  obtain ⟨s0, l0, c0, r0⟩ := open_ints25 f0
  obtain ⟨s1, l1, c1, r1⟩ := open_ints25 f1
  obtain ⟨a2, c2, _, _⟩ := open_i64 Tryd.underlying3 f2
  obtain ⟨s3, l3, c3, r3, g3⟩ := open_ins25 f3
  refine ⟨⟨s0, s1, a2, s3⟩, ?_, ⟨⟨l0, l1, a2, l3⟩, ⟨r0, r1, rfl, r3⟩, g3⟩⟩
  have hl4 : cs.length = 4 := hl
  obtain ⟨x0, x1, x2, x3, rfl⟩ : ∃ x0 x1 x2 x3, cs = [x0, x1, x2, x3] := by
    match cs, hl4 with
    | [x0, x1, x2, x3], _ => exact ⟨x0, x1, x2, x3, rfl⟩
  have q0 : [x0] = [s0.v] := c0
  have q1 : [x1] = [s1.v] := c1
  have q2 : [x2] = [.int .i64 a2] := c2
  have q3 : [x3] = [s3.v] := c3
  injection q0 with q0; injection q1 with q1; injection q2 with q2; injection q3 with q3
  subst q0 q1 q2 q3
  rfl
theorem allF_good {w : World} : ∀ {L : List FnV}, (∀ v ∈ L, GoodF w v) → ∃ fs, AllF w L fs ∧ ∀ f ∈ fs, ∀ i ∈ f.code, GoodIn i
  | [], _ => ⟨[], trivial, fun f hf => by cases hf⟩
  | v :: l, h => by
    obtain ⟨f, h1, h2⟩ := h v (List.mem_cons_self ..)
    obtain ⟨fs, h3, h4⟩ := allF_good (L := l) (fun u hu => h u (List.mem_cons_of_mem _ hu))
    exact ⟨f :: fs, ⟨h1, h3⟩, fun g hg i hi => by
      rcases List.mem_cons.1 hg with rfl | hg
      · exact h2 i hi
      · exact h4 g hg i hi⟩
theorem open_prog25 {v0 v1 v2 v3 : Value} {y0 y1 y2 y3 : DataW H × List MemPlace} {n : Nat} (h0 : DataW.trod enc Tryd.prog w base spare held n 4 [v0] = some y0) (h1 : DataW.trod enc Tryd.prog w base spare held n 22 [v1] = some y1)
    (h2 : DataW.trod enc Tryd.prog w base spare held n 3 [v2] = some y2) (h3 : DataW.trod enc Tryd.prog w base spare held n 23 [v3] = some y3) :
    ∃ (p : PrV) (P : PrM), v0 = .bool p.u ∧ v1 = .slice p.g.a p.g.n p.g.c ∧ v2 = .int .i64 p.m ∧ v3 = .slice p.f.a p.f.n p.f.c ∧ ReadP w p P ∧ GoodP P := by
  obtain ⟨u, c0, _⟩ := DataW.trod_bool Tryd.underlying4 h0
  obtain ⟨s1, gl, c1, r1⟩ := open_ints25 h1
  obtain ⟨m, c2, _, _⟩ := open_i64 Tryd.underlying3 h2
  obtain ⟨s3, L, c3, r3, g3⟩ := open_fns25 h3
  obtain ⟨fs, hA, hg⟩ := allF_good g3
  injection c0 with c0; injection c1 with c1; injection c2 with c2; injection c3 with c3
  exact ⟨⟨u, s1, m, s3⟩, ⟨u, gl, m, fs⟩, c0, c1, c2, c3, ⟨rfl, r1, rfl, L, r3, hA⟩, hg⟩
end
end Go.Proofs.YtedmjlhgpdeafaaDoor
