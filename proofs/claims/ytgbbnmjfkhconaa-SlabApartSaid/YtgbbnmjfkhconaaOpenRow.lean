/- A slice that came in reads as a list of whatever its elements open as. Over any program. No conditions beside those stated. -/
import Derived.Test.YtgbbnmjfkhconaaRow
import Derived.Deep.Slices
import Derived.Deep.Fields
import Derived.ChangeSame
import Derived.ChangeOld
namespace Go.Proofs.Ytgbbnmjfkhconaa
open Go.ChangeShapes Go.WideShapes Go.Deep Go.RowKit
set_option linter.unusedVariables false
set_option linter.unusedSimpArgs false
section
variable {H : Type} {enc : TypeId × Value → H} {P : Program} {w : World} {base : Nat} {spare : Nat → Bool} {held : Bool}
theorem open_rows {α : Type} (c : Elt α) (good : α → Prop) {t e : TypeId} {fuel : Nat} {a : Option Addr} {len cap : Nat} {x : DataW H × List MemPlace} (ht : P.underlying t = some (.slice e)) (hC : P.cellsOf e = c.size)
    (hel : ∀ n cs y, DataW.trod enc P w base spare held n e cs = some y → cs.length = c.size → ∃ z : α, cs = c.cells z ∧ good z)
    (h : DataW.trod enc P w base spare held fuel t [.slice a len cap] = some x) : ∃ L : List α, ReadR c w (.slice a len cap) L ∧ ∀ z ∈ L, good z := by
  rcases open_slice ht h with ⟨hcs, _⟩ | ⟨x, l, cp, m, n, D, Pl, hcs, _, hl, hm, hmm, _, hi⟩
  · simp at hcs
    obtain ⟨rfl, rfl, rfl⟩ := hcs
    exact ⟨[], readR_nil w, fun z hz => by cases hz⟩
  · simp at hcs
    obtain ⟨rfl, rfl, rfl⟩ := hcs
    have key : ∀ i, i < len → ∃ z : α, good z ∧ ∀ j, j < c.size → w.cell? (x.add (i * c.size + j)) = (c.cells z)[j]? := fun i hlt => by
      obtain ⟨cs', hc, htr⟩ := hi i (by rw [hmm]; split <;> omega)
      rw [hC] at hc
      obtain ⟨_, hcl, hat⟩ := World.cells?_some hc
      obtain ⟨z, rfl, hg⟩ := hel _ _ _ htr hcl
      exact ⟨z, hg, fun j hj => by rw [← Go.Deep.add_add]; exact hat j hj⟩
    have all : ∀ n, n ≤ len → ∃ L : List α, L.length = n ∧ (∀ z ∈ L, good z) ∧ ∀ k, (hk : k < L.length) → ∀ j, j < c.size → w.cell? (x.add (k * c.size + j)) = (c.cells L[k])[j]? := by
      intro n
      induction n with
      | zero => exact fun _ => ⟨[], rfl, (fun z hz => by cases hz), fun k hk => by simp at hk⟩
      | succ n ih =>
        intro hn
        obtain ⟨L, h1, h2, h3⟩ := ih (by omega)
        obtain ⟨z, hg, hz⟩ := key n (by omega)
        refine ⟨L ++ [z], by simp [h1], fun y hy => ?_, fun k hk j hj => ?_⟩
        · rcases List.mem_append.1 hy with q | q
          · exact h2 y q
          · rw [List.mem_singleton.1 q]; exact hg
        · rcases Nat.lt_or_ge k L.length with q | q
          · rw [List.getElem_append_left q]; exact h3 k q j hj
          · have e : k = L.length := by simp at hk; omega
            subst e
            rw [List.getElem_append_right (Nat.le_refl _)]
            simp only [Nat.sub_self, List.getElem_cons_zero]
            rw [h1]; exact hz j hj
    obtain ⟨L, h1, h2, h3⟩ := all len (Nat.le_refl _)
    refine ⟨L, ?_, h2⟩
    subst h1
    refine ⟨some x, cap, rfl, hl, hm, (fun h => by cases h), fun hp => ?_⟩
    have h0 := h3 0 hp 0 c.pos
    obtain ⟨b, o, spot⟩ := x
    have hc0 : ∃ u, (c.cells L[0])[0]? = some u := ⟨_, List.getElem?_eq_getElem (by rw [c.len]; exact c.pos)⟩
    obtain ⟨u, hu⟩ := hc0
    rw [hu] at h0
    have hspot : spot = none := by simpa [Addr.add] using World.cell?_spot h0
    subst hspot
    refine ⟨b, o, rfl, ?_, fun k hk j hj => ?_⟩
    · have := World.block_lt_of_cell? w _ h0
      simpa [Addr.add] using this
    · have := h3 k hk j hj
      rwa [Addr.add_lit] at this
/-- An int that came in. -/
theorem open_i64 {t : TypeId} {n : Nat} {cs : List Value} {y : DataW H × List MemPlace} (ht : P.underlying t = some (.int .i64)) (h : DataW.trod enc P w base spare held n t cs = some y) : ∃ a : Int, cs = [.int .i64 a] ∧ -9223372036854775808 ≤ a ∧ a ≤ 9223372036854775807 := by
  obtain ⟨a, e, _, wa⟩ := DataW.trod_int ht h
  have b := bounds_i64 wa
  exact ⟨a, e, by omega, by omega⟩
theorem open_u64 {t : TypeId} {n : Nat} {cs : List Value} {y : DataW H × List MemPlace} (ht : P.underlying t = some (.int .u64)) (h : DataW.trod enc P w base spare held n t cs = some y) : ∃ a : Int, cs = [.int .u64 a] ∧ 0 ≤ a ∧ a ≤ 18446744073709551615 := by
  obtain ⟨a, e, _, wa⟩ := DataW.trod_int ht h
  have b := bounds_u64 wa
  exact ⟨a, e, by omega, by omega⟩
/-- A list that is known cell by cell, from its pieces. -/
theorem list_of {cs xs : List Value} (h : cs.length = xs.length) (hk : ∀ j, j < xs.length → (cs.drop j).take 1 = [xs.getD j undef]) : cs = xs := by
  apply List.ext_getElem h
  intro i h1 h2
  have := hk i h2
  rw [List.drop_eq_getElem_cons h1] at this
  simp only [List.take_succ_cons, List.take_zero, List.cons.injEq, and_true] at this
  rw [this, List.getD_eq_getElem?_getD, List.getElem?_eq_getElem h2]; rfl
end
end Go.Proofs.Ytgbbnmjfkhconaa
