/- Slices whose elements take one or more cells: read as lists, owned by the call, known whole. Over any program. No conditions beside those stated. -/
import Derived.Test.YtedmjlhgpdeafaaDoorBlk
namespace Go.Proofs.YtedmjlhgpdeafaaDoor
open Go.RowKit
set_option linter.unusedVariables false
set_option linter.unusedSimpArgs false
/-- How an element lies in memory. -/
structure Elt (α : Type) where
  cells : α → List Value
  size : Nat
  pos : 0 < size
  len : ∀ x, (cells x).length = size
  one : ∀ x, ∀ u ∈ cells x, u.oneCell' = true
/-- A slice type, its element type, and what they are. -/
structure IsRow (P : Program) (T E : TypeId) (size bytes : Nat) (z : Value) : Prop where
  und : P.underlying T = some (.slice E)
  inf : (P.info? E).map (fun i => (i.zero, i.size, i.bytes)) = some (some z, size, bytes)
  zs : z.cells.size = size
section
variable {α : Type} (c : Elt α)
def Elt.row (L : List α) : List Value := L.flatMap c.cells
theorem row_nil : c.row [] = [] := rfl
theorem row_cons (x : α) (L : List α) : c.row (x :: L) = c.cells x ++ c.row L := by unfold Elt.row; rw [List.flatMap_cons]
theorem row_one (x : α) : c.row [x] = c.cells x := by rw [row_cons, row_nil, List.append_nil]
theorem row_length : ∀ L : List α, (c.row L).length = L.length * c.size
  | [] => by rw [row_nil, List.length_nil, List.length_nil, Nat.zero_mul]
  | x :: l => by rw [row_cons, List.length_append, row_length l, c.len, List.length_cons, Nat.succ_mul, Nat.add_comm]
theorem row_append (L M : List α) : c.row (L ++ M) = c.row L ++ c.row M := by unfold Elt.row; exact List.flatMap_append
theorem row_at : ∀ (L : List α) (k : Nat) (h : k < L.length) (j : Nat), j < c.size → (c.row L)[k * c.size + j]? = (c.cells L[k])[j]?
  | x :: l, 0, _, j, hj => by
    rw [row_cons, Nat.zero_mul, Nat.zero_add, List.getElem?_append_left (by rw [c.len]; exact hj)]; rfl
  | x :: l, k + 1, h, j, hj => by
    have hk : k < l.length := by simpa using h
    rw [row_cons, List.getElem?_append_right (by rw [c.len, Nat.succ_mul]; omega), c.len, show (k + 1) * c.size + j - c.size = k * c.size + j by rw [Nat.succ_mul]; omega]
    exact row_at l k hk j hj
theorem row_mem {L : List α} : ∀ u ∈ c.row L, u.oneCell' = true := by
  intro u hu; unfold Elt.row at hu; obtain ⟨x, _, hx⟩ := List.mem_flatMap.1 hu; exact c.one x u hx
theorem row_split {n k j : Nat} (hs : 0 < c.size) (h : k * c.size + j < n * c.size) (hj : j < c.size) : k < n := by
  rcases Nat.lt_or_ge k n with q | q
  · exact q
  · have := Nat.mul_le_mul_right c.size q; omega
theorem row_ext {L : List α} {vs : List Value} (hl : vs.length = L.length * c.size) (h : ∀ k, (hk : k < L.length) → ∀ j, j < c.size → vs[k * c.size + j]? = (c.cells L[k])[j]?) : vs = c.row L := by
  apply List.ext_getElem? 
  intro i
  rcases Nat.lt_or_ge i (L.length * c.size) with q | q
  · have hp := c.pos
    have e : i / c.size * c.size + i % c.size = i := by rw [Nat.mul_comm]; exact Nat.div_add_mod i c.size
    have hm := Nat.mod_lt i hp
    have hk : i / c.size < L.length := row_split c hp (j := i % c.size) (by rw [e]; exact q) hm
    rw [← e, h _ hk _ hm, row_at c L _ hk _ hm]
  · rw [List.getElem?_eq_none (by omega), List.getElem?_eq_none (by rw [row_length]; omega)]
/-- A slice value that reads as a list. -/
def ReadR (w : World) (v : Value) (L : List α) : Prop :=
  ∃ a cap, v = .slice a L.length cap ∧ L.length ≤ cap ∧ cap ≤ maxLen ∧ (a = none → cap = 0) ∧ (0 < L.length → ∃ b o, a = some ⟨b, o, none⟩ ∧ b < w.heap.size ∧ ∀ k, (h : k < L.length) → ∀ j, j < c.size → w.cell? ⟨b, o + (k * c.size + j), none⟩ = (c.cells L[k])[j]?)
/-- One that the call itself has made, from block B on; E: the elements' type. -/
def OwnR (E : TypeId) (w : World) (B : Nat) (v : Value) (L : List α) : Prop := w.ownsRow B E c.size v L.length (c.row L)
variable {c} {E : TypeId} {w w' : World} {B : Nat} {v : Value} {L : List α}
theorem readR_nil (w : World) : ReadR c w (.slice none 0 0) [] := ⟨none, 0, rfl, Nat.le_refl _, Nat.zero_le _, fun _ => rfl, fun h => by simp at h⟩
theorem readR_mk {b o cap : Nat} (h1 : L.length ≤ cap) (h2 : cap ≤ maxLen) (h3 : b < w.heap.size) (h4 : ∀ k, (h : k < L.length) → ∀ j, j < c.size → w.cell? ⟨b, o + (k * c.size + j), none⟩ = (c.cells L[k])[j]?) : ReadR c w (.slice (some ⟨b, o, none⟩) L.length cap) L :=
  ⟨_, cap, rfl, h1, h2, fun h => (by cases h), fun _ => ⟨b, o, rfl, h3, h4⟩⟩
theorem readR_kept (h : ReadR c w v L) (hk : ∀ b, v.ownBlock = some b → b < w.heap.size → w'.heap[b]? = w.heap[b]?) (hs : w.heap.size ≤ w'.heap.size) : ReadR c w' v L := by
  obtain ⟨a, cap, rfl, h1, h2, h3, h4⟩ := h
  refine ⟨a, cap, rfl, h1, h2, h3, fun hp => ?_⟩
  obtain ⟨b, o, rfl, h5, h6⟩ := h4 hp
  exact ⟨b, o, rfl, by omega, fun k hkk j hj => (World.cell?_of_block (w := w) (hk b rfl h5)).trans (h6 k hkk j hj)⟩
theorem readR_below (h : ReadR c w v L) (hb : Below w.heap.size w w') : ReadR c w' v L := readR_kept h (fun b _ hlt => hb.block b hlt) hb.size
theorem readR_grown {r : Option Nat} (h : ReadR c w v L) (hg : w.grownBy w' r) (hne : v.ownBlock = none ∨ v.ownBlock ≠ r) : ReadR c w' v L :=
  readR_kept h (fun b hb hlt => hg.block b hlt (by rcases hne with q | q; (rw [hb] at q; cases q); (rw [← hb]; exact q))) hg.size
theorem readR_len (h : ReadR c w v L) : ∃ a cap, v = .slice a L.length cap ∧ L.length ≤ cap ∧ cap ≤ maxLen := by
  obtain ⟨a, cap, rfl, h1, h2, _⟩ := h; exact ⟨a, cap, rfl, h1, h2⟩
theorem readR_pos (h : ReadR c w v L) (hn : 0 < L.length) : ∃ b o cap, v = .slice (some ⟨b, o, none⟩) L.length cap ∧ L.length ≤ cap ∧ cap ≤ maxLen ∧ b < w.heap.size ∧ ∀ k, (h : k < L.length) → ∀ j, j < c.size → w.cell? ⟨b, o + (k * c.size + j), none⟩ = (c.cells L[k])[j]? := by
  obtain ⟨a, cap, rfl, h1, h2, h3, h4⟩ := h
  obtain ⟨b, o, rfl, h5, h6⟩ := h4 hn
  exact ⟨b, o, cap, rfl, h1, h2, h5, h6⟩
theorem readR_take {a : Option Addr} {len cap n : Nat} (h : ReadR c w (.slice a len cap) L) (hn : n ≤ L.length) : ReadR c w (.slice a n cap) (L.take n) := by
  obtain ⟨a', cap', e, h1, h2, h3, h4⟩ := h
  cases e
  have e : (L.take n).length = n := by simp; omega
  refine ⟨a, cap, by rw [e], by omega, h2, h3, fun hp => ?_⟩
  rw [e] at hp
  obtain ⟨b, o, rfl, h5, h6⟩ := h4 (by omega)
  refine ⟨b, o, rfl, h5, fun k hk j hj => ?_⟩
  rw [h6 k (by omega) j hj, List.getElem_take]
theorem readR_drop {b o cap n : Nat} (h : ReadR c w (.slice (some ⟨b, o, none⟩) L.length cap) L) (hn : n ≤ L.length) : ReadR c w (.slice (some ⟨b, o + n * c.size, none⟩) (L.length - n) (cap - n)) (L.drop n) := by
  obtain ⟨a', cap', e, h1, h2, h3, h4⟩ := h
  cases e
  have e : (L.drop n).length = L.length - n := by simp
  refine ⟨_, cap - n, by rw [e], by omega, by omega, (fun h => by cases h), fun hp => ?_⟩
  rw [e] at hp
  obtain ⟨b', o', e2, h5, h6⟩ := h4 (by omega)
  cases e2
  refine ⟨b, _, rfl, h5, fun k hk j hj => ?_⟩
  have := h6 (n + k) (by omega) j hj
  rw [List.getElem_drop, ← this, Nat.add_mul, Nat.add_assoc, Nat.add_assoc]
/-- 's[n:]', as the walk spells it. -/
theorem readR_from {b o cap n : Nat} (h : ReadR c w (.slice (some ⟨b, o, none⟩) L.length cap) L) (hn : n ≤ L.length) : ReadR c w (.slice (if cap = n then some ⟨b, o, none⟩ else some ⟨b, o + n * c.size, none⟩) (L.length - n) (cap - n)) (L.drop n) := by
  rcases Nat.lt_or_ge n cap with q | q
  · rw [if_neg (by omega)]; exact readR_drop h hn
  · have h' := h
    obtain ⟨_, _, e, h1, h2, _⟩ := h'
    cases e
    have e : L.drop n = [] := List.drop_of_length_le (by omega)
    rw [if_pos (by omega), e, show L.length - n = 0 by omega]
    exact ⟨_, _, rfl, Nat.zero_le _, by omega, (fun h => by cases h), fun hp => by simp at hp⟩
theorem readR_one {b o cap : Nat} {x : α} (h1 : 1 ≤ cap) (h2 : cap ≤ maxLen) (h3 : b < w.heap.size) (h : ∀ j, j < c.size → w.cell? ⟨b, o + j, none⟩ = (c.cells x)[j]?) : ReadR c w (.slice (some ⟨b, o, none⟩) 1 cap) [x] :=
  readR_mk (L := [x]) h1 h2 h3 (fun k hk j hj => by
    have e : k = 0 := by simp at hk; omega
    subst e
    rw [Nat.zero_mul, Nat.zero_add]; exact h j hj)
theorem readR_blk {g cap : Nat} (h : Blk w g (c.row L)) (h1 : L.length ≤ cap) (h2 : cap ≤ maxLen) : ReadR c w (.slice (some ⟨g, 0, none⟩) L.length cap) L :=
  readR_mk h1 h2 h.1 (fun k hk j hj => by
    have hlt : k * c.size + j < (c.row L).length := by
      rw [row_length]
      have := Nat.mul_le_mul_right c.size (Nat.succ_le_of_lt hk)
      rw [Nat.succ_mul] at this; omega
    rw [Nat.zero_add, h.2.1 _ hlt, ← row_at c L k hk j hj, List.getElem?_eq_getElem hlt])
theorem readR_new (w : World) (T : TypeId) (x : α) : ReadR c (w.alloc (.cells (c.cells x).toArray T)) (.slice (some ⟨w.heap.size, 0, none⟩) 1 1) [x] :=
  readR_one (Nat.le_refl _) (by unfold maxLen; decide) (by simp) (fun j hj => by rw [World.cell?_alloc_new]; simp)
theorem ownR_nil (w : World) (B : Nat) : OwnR c E w B (.slice none 0 0) [] := World.ownsRow_nil _ _ _ _
theorem ownR_lt (h : OwnR c E w B v L) : ∀ k, v.ownBlock = some k → B ≤ k ∧ k < w.heap.size := World.ownsRow.lt h
theorem ownR_read (h : OwnR c E w B v L) : ReadR c w v L := by
  have hl := ownR_lt h
  obtain ⟨h1, h2⟩ := h
  rcases h2 with ⟨rfl, h3⟩ | ⟨g, cap, cur, rfl, h3, h4, h5, h6, h7, h8⟩
  · exact ⟨none, 0, by rw [h3], by omega, Nat.zero_le _, fun _ => rfl, fun hp => by omega⟩
  · refine ⟨some ⟨g, 0, none⟩, cap, rfl, h5, h6, (fun h => by cases h), fun hp => ⟨g, 0, rfl, (hl g rfl).2, fun k hk j hj => ?_⟩⟩
    have e := row_at c L k hk j hj
    have hlt : k * c.size + j < L.length * c.size := by
      have := Nat.mul_le_mul_right c.size (Nat.succ_le_of_lt hk)
      rw [Nat.succ_mul] at this; omega
    rw [← h8, List.getElem?_take_of_lt hlt, Array.getElem?_toList] at e
    rw [Nat.zero_add, ← e]
    simp [World.cell?, h4]
theorem ownR_mono {B' : Nat} (h : OwnR c E w B v L) (hB : B' ≤ B) : OwnR c E w B' v L := by
  obtain ⟨h1, h2⟩ := h
  rcases h2 with h2 | ⟨g, cap, cur, rfl, h3, h4⟩
  · exact ⟨h1, Or.inl h2⟩
  · exact ⟨h1, Or.inr ⟨g, cap, cur, rfl, Nat.le_trans hB h3, h4⟩⟩
theorem ownR_kept {r : Option Nat} (h : OwnR c E w B v L) (hg : w.grownBy w' r) (hne : v.ownBlock = none ∨ v.ownBlock ≠ r) : OwnR c E w' B v L := World.ownsRow.kept h hg hne
theorem ownR_below (h : OwnR c E w B v L) (hb : Below w.heap.size w w') : OwnR c E w' B v L := by
  have hg := gb_of hb (none : Option Nat)
  refine World.ownsRow.kept h hg ?_
  cases hv : v.ownBlock with
  | none => exact Or.inl rfl
  | some k => exact Or.inr (by intro e; cases e)
theorem ownR_alloc (h : OwnR c E w B v L) (o : Obj) : OwnR c E (w.alloc o) B v L := World.ownsRow.alloc h o
theorem ownR_drew (h : OwnR c E w B v L) : OwnR c E w.drew B v L := h
theorem readR_drew (h : ReadR c w v L) : ReadR c w.drew v L := h
theorem own_emptyR (hB : B ≤ w.heap.size) : OwnR c E (w.alloc (.cells #[] E)) B (.slice (some ⟨w.heap.size, 0, none⟩) 0 0) [] :=
  ⟨by simp [row_nil], Or.inr ⟨w.heap.size, 0, #[], rfl, hB, (MapKept.heap_alloc w _).1, Nat.le_refl _, Nat.zero_le _, by simp, by simp [row_nil]⟩⟩
theorem b_ownR {W : World} (h : Below W.heap.size W w) (ho : OwnR c E w W.heap.size v L) (hg : w.grownBy w' v.ownBlock) : Below W.heap.size W w' :=
  h.grown hg h.size (fun k e => (ownR_lt ho k e).1)
theorem ownR_form (h : OwnR c E w B v L) (hn : 0 < L.length) : ∃ g cap, v = .slice (some ⟨g, 0, none⟩) L.length cap ∧ B ≤ g ∧ g < w.heap.size ∧ L.length ≤ cap ∧ cap ≤ maxLen ∧ Blk w g (c.row L) := by
  have hl := ownR_lt h
  have hr := ownR_read h
  obtain ⟨h1, h2⟩ := h
  rcases h2 with ⟨_, h3⟩ | ⟨g, cap, cur, rfl, h3, h4, h5, h6, h7, h8⟩
  · omega
  · refine ⟨g, cap, rfl, h3, (hl g rfl).2, h5, h6, (hl g rfl).2, fun i hi => ?_, fun i => by simp [World.frozen?, h4]⟩
    rw [row_length] at hi
    have e : (cur.toList.take (L.length * c.size))[i]? = (c.row L)[i]? := by rw [h8]
    rw [List.getElem?_take_of_lt hi, Array.getElem?_toList] at e
    simp [World.cell?, h4, e, List.getElem?_eq_getElem (show i < (c.row L).length by rw [row_length]; exact hi)]
/-- Two that are of unlike types never share a block. -/
theorem ownR_apart {β : Type} {d : Elt β} {E' : TypeId} {B' : Nat} {v' : Value} {M : List β} (h : OwnR c E w B v L) (h' : OwnR d E' w B' v' M) (hE : E ≠ E') : v.ownBlock = none ∨ v.ownBlock ≠ v'.ownBlock := by
  rcases h.2 with ⟨rfl, _⟩ | ⟨g, cap, cur, rfl, _, hh, _⟩
  · exact Or.inl rfl
  · refine Or.inr ?_
    rcases h'.2 with ⟨rfl, _⟩ | ⟨g2, cap2, cur2, rfl, _, hh2, _⟩
    · intro e; cases e
    · intro e
      have e2 : g = g2 := by cases e; rfl
      subst e2
      rw [hh] at hh2
      cases hh2
      exact hE rfl
variable {P : Program} {T : TypeId} {bytes : Nat} {z : Value}
/-- append(v, src...): v the call's own, src reads as a list. -/
theorem wp_appendR (R : IsRow P T E c.size bytes z) {o : Oper} {a : Act} {K : Act → World → Prop} {Q : Exit → Act → World → Prop} (s x : Operand)
    (ho : o.op = .call { callee := .builtin .append, args := #[s, x], argTypes := #[T, T] })
    (B : Nat) (v : Value) (L : List α) (hs : a.eval s = v) (hown : OwnR c E w B v L) (u : Value) (M : List α) (hx : a.eval x = u) (hr : ReadR c w u M)
    (hlen : (L.length + M.length) * bytes ≤ 140737488355328) (hlen2 : L.length + M.length ≤ maxLen) (hB : B ≤ w.heap.size)
    (h : ∀ v' w', OwnR c E w' B v' (L ++ M) → w.grownBy w' v.ownBlock → K (a.put o.dst v') w') : Oper.wp P o a w K Q := by
  obtain ⟨i, hi, hz, hs1, hb1⟩ := info_parts R.inf
  obtain ⟨a', cap, rfl, h1, h2, h3, h4⟩ := hr
  cases a' with
  | none =>
    obtain rfl := h3 rfl
    have e := List.eq_nil_of_length_eq_zero (Nat.le_zero.1 h1)
    subst e
    have hrun := run_append_owned_none (P := P) (w := w) B T o.type E i c.size R.und hi v _ _ hown
    unfold Oper.wp
    simp [execOp, ho, resolve, invoke, builtin, hs, hx, hrun, Result.andThen]
    exact h v w (by rw [List.append_nil]; exact hown) (gb_refl _ _)
  | some ad =>
    refine wp_append_own w s x _ ho B E i _ c.size bytes R.und hi hz hs1 hb1 R.zs c.pos v _ _ hs hown ad M.length cap (c.row M) hx (row_length c M) (fun j u hj => ?_) (row_mem c) hlen2 hlen hB (fun v' w' ho' hg' _ => ?_)
    · have hlt : j < M.length * c.size := by
        rcases Nat.lt_or_ge j (M.length * c.size) with q | q
        · exact q
        · rw [List.getElem?_eq_none (by rw [row_length]; exact q)] at hj; cases hj
      have hM : 0 < M.length := by
        rcases Nat.eq_zero_or_pos M.length with e | e
        · rw [e, Nat.zero_mul] at hlt; omega
        · exact e
      obtain ⟨b, off, hab, _, h6⟩ := h4 hM
      cases hab
      have hp := c.pos
      have e : j / c.size * c.size + j % c.size = j := by rw [Nat.mul_comm]; exact Nat.div_add_mod j c.size
      have hm := Nat.mod_lt j hp
      have hk : j / c.size < M.length := row_split c hp (j := j % c.size) (by rw [e]; exact hlt) hm
      have q := h6 _ hk _ hm
      rw [← row_at c M _ hk _ hm, e] at q
      rw [Addr.add_lit, q, hj]
    · refine h v' w' ?_ hg'
      unfold OwnR
      rw [List.length_append, row_append]
      exact ho'
theorem appendR (R : IsRow P T E c.size bytes z) {ops : Array Oper} {rest : List Oper} {o : Oper} {a : Act} {Q : Exit → Act → World → Prop} (hgd : o.guard = none) (s x : Operand)
    (ho : o.op = .call { callee := .builtin .append, args := #[s, x], argTypes := #[T, T] })
    (B : Nat) (v : Value) (L : List α) (hs : a.eval s = v) (hown : OwnR c E w B v L) (u : Value) (M : List α) (hx : a.eval x = u) (hr : ReadR c w u M)
    (hlen : (L.length + M.length) * bytes ≤ 140737488355328) (hlen2 : L.length + M.length ≤ maxLen) (hB : B ≤ w.heap.size)
    (h : ∀ v' w', OwnR c E w' B v' (L ++ M) → w.grownBy w' v.ownBlock → wpList P ops Q rest (a.put o.dst v') w') : wpList P ops Q (o :: rest) a w :=
  wpList_plain hgd fun _ hK => wp_appendR R s x ho B v L hs hown u M hx hr hlen hlen2 hB fun v' w' h1 h2 => hK _ _ (h v' w' h1 h2)
theorem step_appendR (R : IsRow P T E c.size bytes z) {ops : Array Oper} {o : Oper} {a : Act} {K : Act → World → Prop} {Q : Exit → Act → World → Prop} {G : Prop} (hgd : o.guard = none) (s x : Operand)
    (ho : o.op = .call { callee := .builtin .append, args := #[s, x], argTypes := #[T, T] })
    (B : Nat) (v : Value) (L : List α) (hs : a.eval s = v) (hown : OwnR c E w B v L) (u : Value) (M : List α) (hx : a.eval x = u) (hr : ReadR c w u M)
    (hlen : (L.length + M.length) * bytes ≤ 140737488355328) (hlen2 : L.length + M.length ≤ maxLen) (hB : B ≤ w.heap.size)
    (h : ∀ v' w', OwnR c E w' B v' (L ++ M) → w.grownBy w' v.ownBlock → K (a.put o.dst v') w') :
    if Region.wanted o (yielded ops a.tmps) = true then Oper.wp P o a w K Q else G := by
  rw [if_pos (by simp [Region.wanted, hgd])]
  exact wp_appendR R s x ho B v L hs hown u M hx hr hlen hlen2 hB h
end
end Go.Proofs.YtedmjlhgpdeafaaDoor
