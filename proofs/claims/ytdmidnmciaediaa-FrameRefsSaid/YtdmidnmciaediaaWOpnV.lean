/- What came in, as lists: nothing of its own. No conditions. A row of truths that came in reads as a list. No conditions. Facts that came in read as rows, none of whose lists is longer than a machine can hold. Conditions: the sizes that the statement's premise bounds. Facts that came in read as rows, which are not longer than a machine can hold. Conditions: the sizes that the statement's premise bounds. -/
import Derived.Test.YtdmidnmciaediaaWRow
import Derived.Deep.Slices
import Derived.Deep.Fields
import Derived.ChangeSame
import Derived.ChangeOld
import Derived.Test.YtdmidnmciaediaaWVerX
import Derived.Test.YtdmidnmciaediaaWOpenRow
import Derived.Test.YtdmidnmciaediaaWVerH
import Derived.Test.YtdmidnmciaediaaWMap1
import Derived.SizedLaws
namespace Go.Proofs.Ytdmidnmciaediaa
section
open Go.ChangeShapes Go.WideShapes Go.Deep Go.RowKit
set_option linter.unusedVariables false
set_option linter.unusedSimpArgs false
theorem weightsAll_mem {H : Type} {P : Program} {e : TypeId} : ∀ {l : List (DataW H)} {d : DataW H} (_ : d ∈ l) {n : Nat} (_ : n ∈ d.weights P e), n ∈ DataW.weightsAll P e l
  | d0 :: l, d, hd, n, hn => by
    simp only [DataW.weightsAll, List.mem_append]
    rcases List.mem_cons.1 hd with rfl | hd
    · exact Or.inl hn
    · exact Or.inr (weightsAll_mem hd hn)
section
variable {H : Type} {enc : TypeId × Value → H} {P : Program} {w : World} {base : Nat} {spare : Nat → Bool} {held : Bool}
theorem open_rowsZ {α : Type} (c : Elt α) (good : α → Prop) {t e : TypeId} {fuel : Nat} {a : Option Addr} {len cap : Nat} {x : DataW H × List MemPlace} (ht : P.underlying t = some (.slice e)) (hC : P.cellsOf e = c.size)
    (hel : ∀ n cs y, DataW.trod enc P w base spare held n e cs = some y → cs.length = c.size → (∀ k ∈ y.1.weights P e, k ≤ reachBytes) → ∃ z : α, cs = c.cells z ∧ good z)
    (h : DataW.trod enc P w base spare held fuel t [.slice a len cap] = some x) (hz : ∀ k ∈ x.1.weights P t, k ≤ reachBytes) : ∃ L : List α, ReadR c w (.slice a len cap) L ∧ (∀ z ∈ L, good z) ∧ L.length * P.bytesOf e ≤ reachBytes := by
  rcases open_slice ht h with ⟨hcs, _⟩ | ⟨x, l, cp, m, n, D, Pl, hcs, _, hl, hm, hmm, hxe, hi⟩
  · simp at hcs
    obtain ⟨rfl, rfl, rfl⟩ := hcs
    exact ⟨[], readR_nil w, (fun z hz => by cases hz), by simp⟩
  · simp at hcs
    obtain ⟨rfl, rfl, rfl⟩ := hcs
    rw [hxe] at hz
    simp only [DataW.weights, ht] at hz
    have hz1 : len * P.bytesOf e ≤ reachBytes := by
      have q := hz _ (List.mem_cons_self ..)
      simp only [List.length_map, List.length_range] at q
      exact Nat.le_trans (Nat.mul_le_mul_right _ (Nat.le_add_right _ _)) q
    have hz2 : ∀ i, i < len → ∀ k ∈ (D i).weights P e, k ≤ reachBytes := fun i hi k hk =>
      hz k (List.mem_cons_of_mem _ (List.mem_append_left _ (weightsAll_mem (List.mem_map.2 ⟨i, List.mem_range.2 hi, rfl⟩) hk)))
    have key : ∀ i, i < len → ∃ z : α, good z ∧ ∀ j, j < c.size → w.cell? (x.add (i * c.size + j)) = (c.cells z)[j]? := fun i hlt => by
      obtain ⟨cs', hc, htr⟩ := hi i (by rw [hmm]; split <;> omega)
      rw [hC] at hc
      obtain ⟨_, hcl, hat⟩ := World.cells?_some hc
      obtain ⟨z, rfl, hg⟩ := hel _ _ _ htr hcl (hz2 i hlt)
      exact ⟨z, hg, fun j hj => by rw [← Go.Deep.add_add]; exact hat j hj⟩
    have all : ∀ n, n ≤ len → ∃ L : List α, L.length = n ∧ (∀ z ∈ L, good z) ∧ ∀ k, (hk : k < L.length) → ∀ j, j < c.size → w.cell? (x.add (k * c.size + j)) = (c.cells L[k])[j]? := by
      intro n
      induction n with
      | zero => exact fun _ => ⟨[], rfl, (fun z hz => by cases hz), fun k hk => by simp at hk⟩
      | succ n ih =>
        intro hn
        obtain ⟨L, h1, h2, h3⟩ := ih (by omega)
        obtain ⟨z, hg, hz⟩ := key n (by omega)
        refine ⟨L ++ [z], by simp [h1], fun y hy => ?_, fun k hk j hj => ?_⟩
        · rcases List.mem_append.1 hy with q | q
          · exact h2 y q
          · rw [List.mem_singleton.1 q]; exact hg
        · rcases Nat.lt_or_ge k L.length with q | q
          · rw [List.getElem_append_left q]; exact h3 k q j hj
          · have e : k = L.length := by simp at hk; omega
            subst e
            rw [List.getElem_append_right (Nat.le_refl _)]
            simp only [Nat.sub_self, List.getElem_cons_zero]
            rw [h1]; exact hz j hj
    obtain ⟨L, h1, h2, h3⟩ := all len (Nat.le_refl _)
    refine ⟨L, ?_, h2, by rw [h1]; exact hz1⟩
    subst h1
    refine ⟨some x, cap, rfl, hl, hm, (fun h => by cases h), fun hp => ?_⟩
    have h0 := h3 0 hp 0 c.pos
    obtain ⟨b, o, spot⟩ := x
    have hc0 : ∃ u, (c.cells L[0])[0]? = some u := ⟨_, List.getElem?_eq_getElem (by rw [c.len]; exact c.pos)⟩
    obtain ⟨u, hu⟩ := hc0
    rw [hu] at h0
    have hspot : spot = none := by simpa [Addr.add] using World.cell?_spot h0
    subst hspot
    refine ⟨b, o, rfl, ?_, fun k hk j hj => ?_⟩
    · have := World.block_lt_of_cell? w _ h0
      simpa [Addr.add] using this
    · have := h3 k hk j hj
      rwa [Addr.add_lit] at this
theorem open_rows2Z {α : Type} (c : Elt α) (good : α → Prop) {t e : TypeId} {fuel : Nat} {cs : List Value} {x : DataW H × List MemPlace} (ht : P.underlying t = some (.slice e)) (hC : P.cellsOf e = c.size)
    (hel : ∀ n cs y, DataW.trod enc P w base spare held n e cs = some y → cs.length = c.size → (∀ k ∈ y.1.weights P e, k ≤ reachBytes) → ∃ z : α, cs = c.cells z ∧ good z)
    (h : DataW.trod enc P w base spare held fuel t cs = some x) (hz : ∀ k ∈ x.1.weights P t, k ≤ reachBytes) : ∃ (s : Sl) (L : List α), cs = [s.v] ∧ ReadR c w s.v L ∧ (∀ z ∈ L, good z) ∧ L.length * P.bytesOf e ≤ reachBytes := by
  have hcs : ∃ a n cap, cs = [.slice a n cap] := by
    rcases open_slice ht h with ⟨hcs, _⟩ | ⟨x, l, cp, m, n, D, Pl, hcs, _⟩
    · exact ⟨none, 0, 0, hcs⟩
    · exact ⟨some x, l, cp, hcs⟩
  obtain ⟨a, n, cap, rfl⟩ := hcs
  obtain ⟨L, h1, h2, h3⟩ := open_rowsZ c good ht hC hel h hz
  exact ⟨⟨a, n, cap⟩, L, rfl, h1, h2, h3⟩
/-- From 'each has one' to a list. -/
theorem pick_list {α β : Type} {Q : α → β → Prop} : ∀ {L : List α} (_ : ∀ z ∈ L, ∃ y, Q z y), ∃ M : List β, L.length = M.length ∧ (∀ k, (h : k < L.length) → (h' : k < M.length) → Q L[k] M[k]) ∧ ∀ y ∈ M, ∃ z ∈ L, Q z y
  | [], _ => ⟨[], rfl, (fun k h => absurd h (Nat.not_lt_zero _)), fun y hy => by cases hy⟩
  | z :: L, h => by
    obtain ⟨y, hy⟩ := h z (List.mem_cons_self ..)
    obtain ⟨M, h1, h2, h3⟩ := pick_list (L := L) (fun u hu => h u (List.mem_cons_of_mem _ hu))
    refine ⟨y :: M, by simp [h1], fun k hk hk' => ?_, fun u hu => ?_⟩
    · cases k with
      | zero => exact hy
      | succ k => exact h2 k (by simpa using hk) (by simpa using hk')
    · rcases List.mem_cons.1 hu with rfl | hu
      · exact ⟨z, List.mem_cons_self .., hy⟩
      · obtain ⟨v, hv, hq⟩ := h3 u hu
        exact ⟨v, List.mem_cons_of_mem _ hv, hq⟩
end
section
variable {H : Type} {enc : TypeId × Value → H} {w : World} {base : Nat} {spare : Nat → Bool} {held : Bool}
theorem open_intsZ {n : Nat} {cs : List Value} {x : DataW H × List MemPlace} (h : DataW.trod enc Try.prog w base spare held n 22 cs = some x) (hz : ∀ k ∈ x.1.weights Try.prog 22, k ≤ reachBytes) : ∃ (s : Sl) (L : List Int), cs = [s.v] ∧ ReadI w s.v L ∧ L.length ≤ 17592186044415 := by
  obtain ⟨s, L, h1, h2, _, h3⟩ := open_rows2Z intE (fun _ => True) Try.underlying22 (by kernel_rfl) (fun n cs y htr hl _ => by
    obtain ⟨a, e, _⟩ := open_i64 Try.underlying3 htr
    exact ⟨a, e, trivial⟩) h hz
  have hb : Try.prog.bytesOf 3 = 8 := by kernel_rfl
  rw [hb] at h3
  exact ⟨s, L, h1, readR_I h2, by unfold reachBytes at h3; omega⟩
def GoodFact (w : World) (f : Bool × Sl) : Prop := ∃ L, ReadI w f.2.v L ∧ L.length ≤ 17592186044415
set_option maxRecDepth 100000 in
theorem open_factZ {n : Nat} {cs : List Value} {x : DataW H × List MemPlace} (h : DataW.trod enc Try.prog w base spare held n 91 cs = some x) (hl : cs.length = 2) (hz : ∀ k ∈ x.1.weights Try.prog 91, k ≤ reachBytes) : ∃ f : Bool × Sl, cs = factE.cells f ∧ GoodFact w f := by
  obtain ⟨y0, y1, n', rfl, _, h0, h1⟩ := trod_struct2 Try.underlying91 h
  simp only [DataW.weights, Try.underlying91] at hz
  have hz1 : ∀ k ∈ y1.1.weights Try.prog 22, k ≤ reachBytes := fun k hk => hz k (DataW.weights_mem_each (j := 1) (t := 22) (d := y1.1) rfl rfl k hk)
  obtain ⟨b, c0, _⟩ := DataW.trod_bool Try.underlying4 h0
  obtain ⟨s, L, c1, r1, l1⟩ := open_intsZ h1 hz1
  obtain ⟨x0, x1, rfl⟩ : ∃ x0 x1, cs = [x0, x1] := by
    match cs, hl with
    | [x0, x1], _ => exact ⟨x0, x1, rfl⟩
  have q0 : [x0] = [.bool b] := c0
  have q1 : [x1] = [s.v] := c1
  injection q0 with q0; injection q1 with q1
  subst q0 q1
  exact ⟨(b, s), rfl, L, r1, l1⟩
end
end
section
open Go.ChangeShapes Go.WideShapes Go.Deep Go.RowKit
set_option linter.unusedVariables false
set_option linter.unusedSimpArgs false
section
variable {H : Type} {enc : TypeId × Value → H} {w : World} {base : Nat} {spare : Nat → Bool} {held : Bool}
def GoodRowY (w : World) (s : Sl) : Prop := ∃ l, FacL w s l ∧ (∀ f ∈ l, f.2.length ≤ 17592186044415) ∧ l.length ≤ 4398046511103
theorem open_factRowY {n : Nat} {cs : List Value} {x : DataW H × List MemPlace} (h : DataW.trod enc Try.prog w base spare held n 89 cs = some x) (hz : ∀ k ∈ x.1.weights Try.prog 89, k ≤ reachBytes) : ∃ s : Sl, cs = rsE.cells s ∧ GoodRowY w s := by
  obtain ⟨s, L, h1, h2, h3, h4⟩ := open_rows2Z factE (GoodFact w) Try.underlying89 (by kernel_rfl) (fun n cs y htr hl hz => open_factZ htr hl hz) h hz
  have hb : Try.prog.bytesOf 91 = 32 := by kernel_rfl
  rw [hb] at h4
  obtain ⟨M, m1, m2, m3⟩ := pick_list (Q := fun (z : Bool × Sl) (y : Bool × List Int) => z.1 = y.1 ∧ ReadI w z.2.v y.2 ∧ y.2.length ≤ 17592186044415) (L := L) (fun z hz => by
    obtain ⟨K, k1, k2⟩ := h3 z hz
    exact ⟨(z.1, K), rfl, k1, k2⟩)
  exact ⟨s, h1, M, ⟨L, h2, m1, fun k hk hk' => ⟨(m2 k hk hk').1, (m2 k hk hk').2.1⟩⟩, (fun f hf => by obtain ⟨z, _, hq⟩ := m3 f hf; exact hq.2.2), by unfold reachBytes at h4; omega⟩
theorem open_factsY {fuel : Nat} {a : Option Addr} {len cap : Nat} {x : DataW H × List MemPlace} (h : DataW.trod enc Try.prog w base spare held fuel 67 [.slice a len cap] = some x) (hz : ∀ k ∈ x.1.weights Try.prog 67, k ≤ reachBytes) : ∃ Fx : FxM, FacR w (.slice a len cap) Fx ∧ (∀ l ∈ Fx, l.length ≤ 4398046511103) ∧ ∀ i j, (factM Fx i j).2.length ≤ 17592186044415 := by
  obtain ⟨L, h1, h2, _⟩ := open_rowsZ rsE (GoodRowY w) Try.underlying67 (by kernel_rfl) (fun n cs y htr hl hz => open_factRowY htr hz) h hz
  obtain ⟨M, m1, m2, m3⟩ := pick_list (Q := fun (z : Sl) (y : List (Bool × List Int)) => FacL w z y ∧ (∀ f ∈ y, f.2.length ≤ 17592186044415) ∧ y.length ≤ 4398046511103) (L := L) (fun z hz => h2 z hz)
  refine ⟨M, ⟨L, h1, m1, fun k hk hk' => (m2 k hk hk').1⟩, (fun l hl => by obtain ⟨z, _, hq⟩ := m3 l hl; exact hq.2.2), fun i j => ?_⟩
  unfold factM
  by_cases hi : i < M.length
  · rw [getD_at hi]
    by_cases hj : j < (M[i]).length
    · rw [getD_at hj]
      obtain ⟨z, _, hq⟩ := m3 _ (List.getElem_mem hi)
      exact hq.2.1 _ (List.getElem_mem hj)
    · rw [List.getD_eq_getElem?_getD, List.getElem?_eq_none (by omega)]; simp
  · rw [List.getD_eq_getElem?_getD (l := M), List.getElem?_eq_none (by omega)]; simp
end
end
end Go.Proofs.Ytdmidnmciaediaa
