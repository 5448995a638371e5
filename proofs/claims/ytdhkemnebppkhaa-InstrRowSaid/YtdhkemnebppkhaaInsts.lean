/- Slices of instructions (structs of four cells): read as lists, or owned by the call. No conditions beside those stated. -/
import Derived.Test.YtdhkemnebppkhaaInstrBytesLaw
namespace Go.Proofs.Ytdhkemnebppkhaa
open Go.RowKit
set_option linter.unusedVariables false
set_option linter.unusedSimpArgs false
/-- An instruction: op, x, a, b. -/
structure Ins where
  op : Int
  x : Int
  a : Int
  b : Int
instance : Inhabited Ins := ⟨⟨0, 0, 0, 0⟩⟩
def cellsI (i : Ins) : List Value := [.int .i64 i.op, .int .u64 i.x, .int .i64 i.a, .int .i64 i.b]
def cellsL (L : List Ins) : List Value := L.flatMap cellsI
def aggI (i : Ins) : Value := .agg #[.int .i64 i.op, .int .u64 i.x, .int .i64 i.a, .int .i64 i.b]
theorem cellsL_length : ∀ L : List Ins, (cellsL L).length = L.length * 4
  | [] => rfl
  | i :: l => by
    show (cellsI i ++ cellsL l).length = _
    rw [List.length_append, cellsL_length l]
    show 4 + l.length * 4 = (l.length + 1) * 4
    omega
theorem cellsL_snoc (L : List Ins) (i : Ins) : cellsL (L ++ [i]) = cellsL L ++ cellsI i := by
  unfold cellsL; rw [List.flatMap_append]; simp
theorem cellsL_at : ∀ (L : List Ins) (k : Nat) (h : k < L.length) (j : Nat), j < 4 → (cellsL L)[k * 4 + j]? = (cellsI L[k])[j]?
  | i :: l, 0, _, j, hj => by
    show (cellsI i ++ cellsL l)[0 * 4 + j]? = (cellsI i)[j]?
    rw [Nat.zero_mul, Nat.zero_add, List.getElem?_append_left (by exact hj)]
  | i :: l, k + 1, h, j, hj => by
    have hk : k < l.length := by simpa using h
    show (cellsI i ++ cellsL l)[(k + 1) * 4 + j]? = (cellsI (l[k]'hk))[j]?
    rw [List.getElem?_append_right (by show 4 ≤ (k + 1) * 4 + j; omega)]
    rw [show (k + 1) * 4 + j - (cellsI i).length = k * 4 + j by show (k + 1) * 4 + j - 4 = k * 4 + j; omega]
    exact cellsL_at l k (by simpa using h) j hj
/-- A slice value that reads as a list of instructions. -/
def ReadN (w : World) (v : Value) (L : List Ins) : Prop :=
  ∃ a cap, v = .slice a L.length cap ∧ L.length ≤ cap ∧ cap ≤ maxLen ∧ (0 < L.length → ∃ g o, a = some ⟨g, o, none⟩ ∧ g < w.heap.size ∧ ∀ k, (h : k < L.length) → ∀ j, j < 4 → w.cell? ⟨g, o + (k * 4 + j), none⟩ = (cellsI L[k])[j]?)
theorem readN_below {w w' : World} {v : Value} {L : List Ins} (h : ReadN w v L) (hb : Below w.heap.size w w') : ReadN w' v L := by
  obtain ⟨a, cap, rfl, h1, h2, h3⟩ := h
  refine ⟨a, cap, rfl, h1, h2, fun hp => ?_⟩
  obtain ⟨g, o, rfl, h4, h5⟩ := h3 hp
  exact ⟨g, o, rfl, Nat.lt_of_lt_of_le h4 hb.size, fun k hk j hj => by rw [(bcell hb).1 _ _ h4]; exact h5 k hk j hj⟩
theorem readN_len {w : World} {v : Value} {L : List Ins} (h : ReadN w v L) : ∃ a cap, v = .slice a L.length cap := by
  obtain ⟨a, cap, rfl, _⟩ := h; exact ⟨a, cap, rfl⟩
/-- One that the call itself has made. -/
def OwnN (w : World) (B : Nat) (v : Value) (L : List Ins) : Prop := w.ownsRow B 24 4 v L.length (cellsL L)
theorem Try.infoIns : (Try.prog.info? 24).map (fun i => (i.zero, i.size, i.bytes)) = some (some (.agg #[.int .i64 0, .int .u64 0, .int .i64 0, .int .i64 0]), 4, 32) := by kernel_rfl
theorem ownN_nil (w : World) (B : Nat) : OwnN w B (.slice none 0 0) [] := World.ownsRow_nil _ _ _ _
theorem ownN_alloc {w : World} {B : Nat} {v : Value} {L : List Ins} (h : OwnN w B v L) (o : Obj) : OwnN (w.alloc o) B v L := World.ownsRow.alloc h o
theorem ownN_below {w w' : World} {B : Nat} {v : Value} {L : List Ins} (h : OwnN w B v L) (hb : Below w.heap.size w w') : OwnN w' B v L := by
  have hg := gb_of hb (none : Option Nat)
  refine World.ownsRow.kept h hg ?_
  cases hv : v.ownBlock with
  | none => exact Or.inl rfl
  | some k => exact Or.inr (by intro e; cases e)
theorem ownN_lt {w : World} {B : Nat} {v : Value} {L : List Ins} (h : OwnN w B v L) : ∀ k, v.ownBlock = some k → B ≤ k ∧ k < w.heap.size := World.ownsRow.lt h
/-- A row of bytes and one of instructions never share a block. -/
theorem own_apart {w : World} {B C : Nat} {u v : Value} {xs : List Int} {L : List Ins} (h : OwnB w B u xs) (h' : OwnN w C v L) : v.ownBlock = none ∨ v.ownBlock ≠ u.ownBlock := by
  rcases h'.2 with ⟨rfl, _⟩ | ⟨g, cap, cur, rfl, _, hh, _⟩
  · exact Or.inl rfl
  · refine Or.inr ?_
    rcases h.2 with ⟨rfl, _⟩ | ⟨g2, cap2, cur2, rfl, _, hh2, _⟩
    · intro e; cases e
    · intro e
      have e2 : g = g2 := by cases e; rfl
      subst e2
      rw [hh] at hh2
      cases hh2
theorem ownN_kept {w w' : World} {B : Nat} {v : Value} {L : List Ins} {r : Option Nat} (h : OwnN w B v L) (hg : w.grownBy w' r) (hne : v.ownBlock = none ∨ v.ownBlock ≠ r) : OwnN w' B v L := World.ownsRow.kept h hg hne
theorem b_ownN {W w w' : World} {v : Value} {L : List Ins} (h : Below W.heap.size W w) (ho : OwnN w W.heap.size v L) (hg : w.grownBy w' v.ownBlock) : Below W.heap.size W w' :=
  h.grown hg h.size (fun k e => (ownN_lt ho k e).1)
theorem one_cellsI (i : Ins) : ∀ u ∈ cellsI i, u.oneCell' = true := by
  intro u hu
  unfold cellsI at hu
  simp only [List.mem_cons, List.not_mem_nil, or_false] at hu
  rcases hu with rfl | rfl | rfl | rfl <;> rfl
theorem appendN {ops : Array Oper} {rest : List Oper} {o : Oper} {a : Act} {Q : Exit → Act → World → Prop} {w : World} (hgd : o.guard = none) (s x : Operand)
    (ho : o.op = .call { callee := .builtin .append, args := #[s, x], argTypes := #[49, 49] })
    (B : Nat) (v : Value) (L : List Ins) (hs : a.eval s = v) (hown : OwnN w B v L) (g : Nat) (i : Ins) (hx : a.eval x = .slice (some ⟨g, 0, none⟩) 1 1) (hc : ∀ j, j < 4 → w.cell? ⟨g, j, none⟩ = (cellsI i)[j]?)
    (hlen : L.length ≤ 1099511627776) (hB : B ≤ w.heap.size)
    (h : ∀ v' w', OwnN w' B v' (L ++ [i]) → w.grownBy w' v.ownBlock → wpList Try.prog ops Q rest (a.put o.dst v') w') : wpList Try.prog ops Q (o :: rest) a w := by
  obtain ⟨inf, hi, hz, hs1, hb1⟩ := info_parts Try.infoIns
  refine wpList_append_own w hgd s x _ ho B 24 inf _ 4 32 Try.underlying49 hi hz hs1 hb1 (by rfl) (by decide) v _ _ hs hown ⟨g, 0, none⟩ 1 1 (cellsI i) hx rfl (fun j u hj => ?_) (one_cellsI i) (by unfold maxLen; omega) (by omega) hB (fun v' w' ho' hg' _ => ?_)
  · have hlt : j < 4 := by
      rcases Nat.lt_or_ge j 4 with q | q
      · exact q
      · rw [List.getElem?_eq_none (by exact q)] at hj; cases hj
    rw [Addr.add_lit, Nat.zero_add, hc j hlt]; exact hj
  · refine h v' w' ?_ hg'
    unfold OwnN
    rw [List.length_append, cellsL_snoc]
    exact ho'
theorem ownN_read {w : World} {B : Nat} {v : Value} {L : List Ins} (h : OwnN w B v L) : ReadN w v L := by
  have hl := ownN_lt h
  obtain ⟨h1, h2⟩ := h
  rcases h2 with ⟨rfl, h3⟩ | ⟨g, cap, cur, rfl, h3, h4, h5, h6, h7, h8⟩
  · refine ⟨none, 0, by rw [h3], by omega, Nat.zero_le _, fun hp => by omega⟩
  · refine ⟨some ⟨g, 0, none⟩, cap, rfl, h5, h6, fun hp => ⟨g, 0, rfl, (hl g rfl).2, fun k hk j hj => ?_⟩⟩
    have e := cellsL_at L k hk j hj
    rw [← h8, List.getElem?_take_of_lt (by omega), Array.getElem?_toList] at e
    rw [Nat.zero_add, ← e]
    simp [World.cell?, h4]
end Go.Proofs.Ytdhkemnebppkhaa
