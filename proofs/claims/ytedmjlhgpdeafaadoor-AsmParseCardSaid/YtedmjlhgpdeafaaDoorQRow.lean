/- Slices whose elements take one or more cells: read as lists, owned by the call, known whole. Over any program. No conditions beside those stated. Rows of many-celled elements that are made, written, cleared. Over any program. No conditions beside those stated. append onto an empty row of the call's own: nothing older turns. Over any program. No conditions beside those stated. -/
import Derived.Test.YtedmjlhgpdeafaaDoorQBase
import Derived.Laws.IdiomCopy
import Derived.Laws.MakeOwn
import Derived.Lib.SliceRun
import Derived.Deep.RegionLawGrows
namespace Go.Proofs.YtedmjlhgpdeafaaDoor
section
open Go.RowKit
set_option linter.unusedVariables false
set_option linter.unusedSimpArgs false
/-- How an element lies in memory. -/
structure Elt (α : Type) where
  cells : α → List Value
  size : Nat
  pos : 0 < size
  len : ∀ x, (cells x).length = size
  one : ∀ x, ∀ u ∈ cells x, u.oneCell' = true
/-- A slice type, its element type, and what they are. -/
structure IsRow (P : Program) (T E : TypeId) (size bytes : Nat) (z : Value) : Prop where
  und : P.underlying T = some (.slice E)
  inf : (P.info? E).map (fun i => (i.zero, i.size, i.bytes)) = some (some z, size, bytes)
  zs : z.cells.size = size
section
variable {α : Type} (c : Elt α)
def Elt.row (L : List α) : List Value := L.flatMap c.cells
theorem row_nil : c.row [] = [] := rfl
theorem row_cons (x : α) (L : List α) : c.row (x :: L) = c.cells x ++ c.row L := by unfold Elt.row; rw [List.flatMap_cons]
theorem row_one (x : α) : c.row [x] = c.cells x := by rw [row_cons, row_nil, List.append_nil]
theorem row_length : ∀ L : List α, (c.row L).length = L.length * c.size
  | [] => by rw [row_nil, List.length_nil, List.length_nil, Nat.zero_mul]
  | x :: l => by rw [row_cons, List.length_append, row_length l, c.len, List.length_cons, Nat.succ_mul, Nat.add_comm]
theorem row_append (L M : List α) : c.row (L ++ M) = c.row L ++ c.row M := by unfold Elt.row; exact List.flatMap_append
theorem row_at : ∀ (L : List α) (k : Nat) (h : k < L.length) (j : Nat), j < c.size → (c.row L)[k * c.size + j]? = (c.cells L[k])[j]?
  | x :: l, 0, _, j, hj => by
    rw [row_cons, Nat.zero_mul, Nat.zero_add, List.getElem?_append_left (by rw [c.len]; exact hj)]; rfl
  | x :: l, k + 1, h, j, hj => by
    have hk : k < l.length := by simpa using h
    rw [row_cons, List.getElem?_append_right (by rw [c.len, Nat.succ_mul]; omega), c.len, show (k + 1) * c.size + j - c.size = k * c.size + j by rw [Nat.succ_mul]; omega]
    exact row_at l k hk j hj
theorem row_mem {L : List α} : ∀ u ∈ c.row L, u.oneCell' = true := by
  intro u hu; unfold Elt.row at hu; obtain ⟨x, _, hx⟩ := List.mem_flatMap.1 hu; exact c.one x u hx
theorem row_split {n k j : Nat} (hs : 0 < c.size) (h : k * c.size + j < n * c.size) (hj : j < c.size) : k < n := by
  rcases Nat.lt_or_ge k n with q | q
  · exact q
  · have := Nat.mul_le_mul_right c.size q; omega
theorem row_ext {L : List α} {vs : List Value} (hl : vs.length = L.length * c.size) (h : ∀ k, (hk : k < L.length) → ∀ j, j < c.size → vs[k * c.size + j]? = (c.cells L[k])[j]?) : vs = c.row L := by
  apply List.ext_getElem? 
  intro i
  rcases Nat.lt_or_ge i (L.length * c.size) with q | q
  · have hp := c.pos
    have e : i / c.size * c.size + i % c.size = i := by rw [Nat.mul_comm]; exact Nat.div_add_mod i c.size
    have hm := Nat.mod_lt i hp
    have hk : i / c.size < L.length := row_split c hp (j := i % c.size) (by rw [e]; exact q) hm
    rw [← e, h _ hk _ hm, row_at c L _ hk _ hm]
  · rw [List.getElem?_eq_none (by omega), List.getElem?_eq_none (by rw [row_length]; omega)]
/-- A slice value that reads as a list. -/
def ReadR (w : World) (v : Value) (L : List α) : Prop :=
  ∃ a cap, v = .slice a L.length cap ∧ L.length ≤ cap ∧ cap ≤ maxLen ∧ (a = none → cap = 0) ∧ (0 < L.length → ∃ b o, a = some ⟨b, o, none⟩ ∧ b < w.heap.size ∧ ∀ k, (h : k < L.length) → ∀ j, j < c.size → w.cell? ⟨b, o + (k * c.size + j), none⟩ = (c.cells L[k])[j]?)
/-- One that the call itself has made, from block B on; E: the elements' type. -/
def OwnR (E : TypeId) (w : World) (B : Nat) (v : Value) (L : List α) : Prop := w.ownsRow B E c.size v L.length (c.row L)
variable {c} {E : TypeId} {w w' : World} {B : Nat} {v : Value} {L : List α}
theorem readR_nil (w : World) : ReadR c w (.slice none 0 0) [] := ⟨none, 0, rfl, Nat.le_refl _, Nat.zero_le _, fun _ => rfl, fun h => by simp at h⟩
theorem readR_mk {b o cap : Nat} (h1 : L.length ≤ cap) (h2 : cap ≤ maxLen) (h3 : b < w.heap.size) (h4 : ∀ k, (h : k < L.length) → ∀ j, j < c.size → w.cell? ⟨b, o + (k * c.size + j), none⟩ = (c.cells L[k])[j]?) : ReadR c w (.slice (some ⟨b, o, none⟩) L.length cap) L :=
  ⟨_, cap, rfl, h1, h2, fun h => (by cases h), fun _ => ⟨b, o, rfl, h3, h4⟩⟩
theorem readR_kept (h : ReadR c w v L) (hk : ∀ b, v.ownBlock = some b → b < w.heap.size → w'.heap[b]? = w.heap[b]?) (hs : w.heap.size ≤ w'.heap.size) : ReadR c w' v L := by
  obtain ⟨a, cap, rfl, h1, h2, h3, h4⟩ := h
  refine ⟨a, cap, rfl, h1, h2, h3, fun hp => ?_⟩
  obtain ⟨b, o, rfl, h5, h6⟩ := h4 hp
  exact ⟨b, o, rfl, by omega, fun k hkk j hj => (World.cell?_of_block (w := w) (hk b rfl h5)).trans (h6 k hkk j hj)⟩
theorem readR_below (h : ReadR c w v L) (hb : Below w.heap.size w w') : ReadR c w' v L := readR_kept h (fun b _ hlt => hb.block b hlt) hb.size
theorem readR_grown {r : Option Nat} (h : ReadR c w v L) (hg : w.grownBy w' r) (hne : v.ownBlock = none ∨ v.ownBlock ≠ r) : ReadR c w' v L :=
  readR_kept h (fun b hb hlt => hg.block b hlt (by rcases hne with q | q; (rw [hb] at q; cases q); (rw [← hb]; exact q))) hg.size
theorem readR_len (h : ReadR c w v L) : ∃ a cap, v = .slice a L.length cap ∧ L.length ≤ cap ∧ cap ≤ maxLen := by
  obtain ⟨a, cap, rfl, h1, h2, _⟩ := h; exact ⟨a, cap, rfl, h1, h2⟩
theorem readR_pos (h : ReadR c w v L) (hn : 0 < L.length) : ∃ b o cap, v = .slice (some ⟨b, o, none⟩) L.length cap ∧ L.length ≤ cap ∧ cap ≤ maxLen ∧ b < w.heap.size ∧ ∀ k, (h : k < L.length) → ∀ j, j < c.size → w.cell? ⟨b, o + (k * c.size + j), none⟩ = (c.cells L[k])[j]? := by
  obtain ⟨a, cap, rfl, h1, h2, h3, h4⟩ := h
  obtain ⟨b, o, rfl, h5, h6⟩ := h4 hn
  exact ⟨b, o, cap, rfl, h1, h2, h5, h6⟩
theorem readR_take {a : Option Addr} {len cap n : Nat} (h : ReadR c w (.slice a len cap) L) (hn : n ≤ L.length) : ReadR c w (.slice a n cap) (L.take n) := by
  obtain ⟨a', cap', e, h1, h2, h3, h4⟩ := h
  cases e
  have e : (L.take n).length = n := by simp; omega
  refine ⟨a, cap, by rw [e], by omega, h2, h3, fun hp => ?_⟩
  rw [e] at hp
  obtain ⟨b, o, rfl, h5, h6⟩ := h4 (by omega)
  refine ⟨b, o, rfl, h5, fun k hk j hj => ?_⟩
  rw [h6 k (by omega) j hj, List.getElem_take]
theorem readR_drop {b o cap n : Nat} (h : ReadR c w (.slice (some ⟨b, o, none⟩) L.length cap) L) (hn : n ≤ L.length) : ReadR c w (.slice (some ⟨b, o + n * c.size, none⟩) (L.length - n) (cap - n)) (L.drop n) := by
  obtain ⟨a', cap', e, h1, h2, h3, h4⟩ := h
  cases e
  have e : (L.drop n).length = L.length - n := by simp
  refine ⟨_, cap - n, by rw [e], by omega, by omega, (fun h => by cases h), fun hp => ?_⟩
  rw [e] at hp
  obtain ⟨b', o', e2, h5, h6⟩ := h4 (by omega)
  cases e2
  refine ⟨b, _, rfl, h5, fun k hk j hj => ?_⟩
  have := h6 (n + k) (by omega) j hj
  rw [List.getElem_drop, ← this, Nat.add_mul, Nat.add_assoc, Nat.add_assoc]
/-- 's[n:]', as the walk spells it. -/
theorem readR_from {b o cap n : Nat} (h : ReadR c w (.slice (some ⟨b, o, none⟩) L.length cap) L) (hn : n ≤ L.length) : ReadR c w (.slice (if cap = n then some ⟨b, o, none⟩ else some ⟨b, o + n * c.size, none⟩) (L.length - n) (cap - n)) (L.drop n) := by
  rcases Nat.lt_or_ge n cap with q | q
  · rw [if_neg (by omega)]; exact readR_drop h hn
  · have h' := h
    obtain ⟨_, _, e, h1, h2, _⟩ := h'
    cases e
    have e : L.drop n = [] := List.drop_of_length_le (by omega)
    rw [if_pos (by omega), e, show L.length - n = 0 by omega]
    exact ⟨_, _, rfl, Nat.zero_le _, by omega, (fun h => by cases h), fun hp => by simp at hp⟩
theorem readR_one {b o cap : Nat} {x : α} (h1 : 1 ≤ cap) (h2 : cap ≤ maxLen) (h3 : b < w.heap.size) (h : ∀ j, j < c.size → w.cell? ⟨b, o + j, none⟩ = (c.cells x)[j]?) : ReadR c w (.slice (some ⟨b, o, none⟩) 1 cap) [x] :=
  readR_mk (L := [x]) h1 h2 h3 (fun k hk j hj => by
    have e : k = 0 := by simp at hk; omega
    subst e
    rw [Nat.zero_mul, Nat.zero_add]; exact h j hj)
theorem readR_blk {g cap : Nat} (h : Blk w g (c.row L)) (h1 : L.length ≤ cap) (h2 : cap ≤ maxLen) : ReadR c w (.slice (some ⟨g, 0, none⟩) L.length cap) L :=
  readR_mk h1 h2 h.1 (fun k hk j hj => by
    have hlt : k * c.size + j < (c.row L).length := by
      rw [row_length]
      have := Nat.mul_le_mul_right c.size (Nat.succ_le_of_lt hk)
      rw [Nat.succ_mul] at this; omega
    rw [Nat.zero_add, h.2.1 _ hlt, ← row_at c L k hk j hj, List.getElem?_eq_getElem hlt])
theorem readR_new (w : World) (T : TypeId) (x : α) : ReadR c (w.alloc (.cells (c.cells x).toArray T)) (.slice (some ⟨w.heap.size, 0, none⟩) 1 1) [x] :=
  readR_one (Nat.le_refl _) (by unfold maxLen; decide) (by simp) (fun j hj => by rw [World.cell?_alloc_new]; simp)
theorem ownR_nil (w : World) (B : Nat) : OwnR c E w B (.slice none 0 0) [] := World.ownsRow_nil _ _ _ _
theorem ownR_lt (h : OwnR c E w B v L) : ∀ k, v.ownBlock = some k → B ≤ k ∧ k < w.heap.size := World.ownsRow.lt h
theorem ownR_read (h : OwnR c E w B v L) : ReadR c w v L := by
  have hl := ownR_lt h
  obtain ⟨h1, h2⟩ := h
  rcases h2 with ⟨rfl, h3⟩ | ⟨g, cap, cur, rfl, h3, h4, h5, h6, h7, h8⟩
  · exact ⟨none, 0, by rw [h3], by omega, Nat.zero_le _, fun _ => rfl, fun hp => by omega⟩
  · refine ⟨some ⟨g, 0, none⟩, cap, rfl, h5, h6, (fun h => by cases h), fun hp => ⟨g, 0, rfl, (hl g rfl).2, fun k hk j hj => ?_⟩⟩
    have e := row_at c L k hk j hj
    have hlt : k * c.size + j < L.length * c.size := by
      have := Nat.mul_le_mul_right c.size (Nat.succ_le_of_lt hk)
      rw [Nat.succ_mul] at this; omega
    rw [← h8, List.getElem?_take_of_lt hlt, Array.getElem?_toList] at e
    rw [Nat.zero_add, ← e]
    simp [World.cell?, h4]
theorem ownR_mono {B' : Nat} (h : OwnR c E w B v L) (hB : B' ≤ B) : OwnR c E w B' v L := by
  obtain ⟨h1, h2⟩ := h
  rcases h2 with h2 | ⟨g, cap, cur, rfl, h3, h4⟩
  · exact ⟨h1, Or.inl h2⟩
  · exact ⟨h1, Or.inr ⟨g, cap, cur, rfl, Nat.le_trans hB h3, h4⟩⟩
theorem ownR_kept {r : Option Nat} (h : OwnR c E w B v L) (hg : w.grownBy w' r) (hne : v.ownBlock = none ∨ v.ownBlock ≠ r) : OwnR c E w' B v L := World.ownsRow.kept h hg hne
theorem ownR_below (h : OwnR c E w B v L) (hb : Below w.heap.size w w') : OwnR c E w' B v L := by
  have hg := gb_of hb (none : Option Nat)
  refine World.ownsRow.kept h hg ?_
  cases hv : v.ownBlock with
  | none => exact Or.inl rfl
  | some k => exact Or.inr (by intro e; cases e)
theorem ownR_alloc (h : OwnR c E w B v L) (o : Obj) : OwnR c E (w.alloc o) B v L := World.ownsRow.alloc h o
theorem ownR_drew (h : OwnR c E w B v L) : OwnR c E w.drew B v L := h
theorem readR_drew (h : ReadR c w v L) : ReadR c w.drew v L := h
theorem own_emptyR (hB : B ≤ w.heap.size) : OwnR c E (w.alloc (.cells #[] E)) B (.slice (some ⟨w.heap.size, 0, none⟩) 0 0) [] :=
  ⟨by simp [row_nil], Or.inr ⟨w.heap.size, 0, #[], rfl, hB, (MapKept.heap_alloc w _).1, Nat.le_refl _, Nat.zero_le _, by simp, by simp [row_nil]⟩⟩
theorem b_ownR {W : World} (h : Below W.heap.size W w) (ho : OwnR c E w W.heap.size v L) (hg : w.grownBy w' v.ownBlock) : Below W.heap.size W w' :=
  h.grown hg h.size (fun k e => (ownR_lt ho k e).1)
theorem ownR_form (h : OwnR c E w B v L) (hn : 0 < L.length) : ∃ g cap, v = .slice (some ⟨g, 0, none⟩) L.length cap ∧ B ≤ g ∧ g < w.heap.size ∧ L.length ≤ cap ∧ cap ≤ maxLen ∧ Blk w g (c.row L) := by
  have hl := ownR_lt h
  have hr := ownR_read h
  obtain ⟨h1, h2⟩ := h
  rcases h2 with ⟨_, h3⟩ | ⟨g, cap, cur, rfl, h3, h4, h5, h6, h7, h8⟩
  · omega
  · refine ⟨g, cap, rfl, h3, (hl g rfl).2, h5, h6, (hl g rfl).2, fun i hi => ?_, fun i => by simp [World.frozen?, h4]⟩
    rw [row_length] at hi
    have e : (cur.toList.take (L.length * c.size))[i]? = (c.row L)[i]? := by rw [h8]
    rw [List.getElem?_take_of_lt hi, Array.getElem?_toList] at e
    simp [World.cell?, h4, e, List.getElem?_eq_getElem (show i < (c.row L).length by rw [row_length]; exact hi)]
/-- Two that are of unlike types never share a block. -/
theorem ownR_apart {β : Type} {d : Elt β} {E' : TypeId} {B' : Nat} {v' : Value} {M : List β} (h : OwnR c E w B v L) (h' : OwnR d E' w B' v' M) (hE : E ≠ E') : v.ownBlock = none ∨ v.ownBlock ≠ v'.ownBlock := by
  rcases h.2 with ⟨rfl, _⟩ | ⟨g, cap, cur, rfl, _, hh, _⟩
  · exact Or.inl rfl
  · refine Or.inr ?_
    rcases h'.2 with ⟨rfl, _⟩ | ⟨g2, cap2, cur2, rfl, _, hh2, _⟩
    · intro e; cases e
    · intro e
      have e2 : g = g2 := by cases e; rfl
      subst e2
      rw [hh] at hh2
      cases hh2
      exact hE rfl
variable {P : Program} {T : TypeId} {bytes : Nat} {z : Value}
/-- append(v, src...): v the call's own, src reads as a list. -/
theorem wp_appendR (R : IsRow P T E c.size bytes z) {o : Oper} {a : Act} {K : Act → World → Prop} {Q : Exit → Act → World → Prop} (s x : Operand)
    (ho : o.op = .call { callee := .builtin .append, args := #[s, x], argTypes := #[T, T] })
    (B : Nat) (v : Value) (L : List α) (hs : a.eval s = v) (hown : OwnR c E w B v L) (u : Value) (M : List α) (hx : a.eval x = u) (hr : ReadR c w u M)
    (hlen : (L.length + M.length) * bytes ≤ 140737488355328) (hlen2 : L.length + M.length ≤ maxLen) (hB : B ≤ w.heap.size)
    (h : ∀ v' w', OwnR c E w' B v' (L ++ M) → w.grownBy w' v.ownBlock → K (a.put o.dst v') w') : Oper.wp P o a w K Q := by
  obtain ⟨i, hi, hz, hs1, hb1⟩ := info_parts R.inf
  obtain ⟨a', cap, rfl, h1, h2, h3, h4⟩ := hr
  cases a' with
  | none =>
    obtain rfl := h3 rfl
    have e := List.eq_nil_of_length_eq_zero (Nat.le_zero.1 h1)
    subst e
    have hrun := run_append_owned_none (P := P) (w := w) B T o.type E i c.size R.und hi v _ _ hown
    unfold Oper.wp
    simp [execOp, ho, resolve, invoke, builtin, hs, hx, hrun, Result.andThen]
    exact h v w (by rw [List.append_nil]; exact hown) (gb_refl _ _)
  | some ad =>
    refine wp_append_own w s x _ ho B E i _ c.size bytes R.und hi hz hs1 hb1 R.zs c.pos v _ _ hs hown ad M.length cap (c.row M) hx (row_length c M) (fun j u hj => ?_) (row_mem c) hlen2 hlen hB (fun v' w' ho' hg' _ => ?_)
    · have hlt : j < M.length * c.size := by
        rcases Nat.lt_or_ge j (M.length * c.size) with q | q
        · exact q
        · rw [List.getElem?_eq_none (by rw [row_length]; exact q)] at hj; cases hj
      have hM : 0 < M.length := by
        rcases Nat.eq_zero_or_pos M.length with e | e
        · rw [e, Nat.zero_mul] at hlt; omega
        · exact e
      obtain ⟨b, off, hab, _, h6⟩ := h4 hM
      cases hab
      have hp := c.pos
      have e : j / c.size * c.size + j % c.size = j := by rw [Nat.mul_comm]; exact Nat.div_add_mod j c.size
      have hm := Nat.mod_lt j hp
      have hk : j / c.size < M.length := row_split c hp (j := j % c.size) (by rw [e]; exact hlt) hm
      have q := h6 _ hk _ hm
      rw [← row_at c M _ hk _ hm, e] at q
      rw [Addr.add_lit, q, hj]
    · refine h v' w' ?_ hg'
      unfold OwnR
      rw [List.length_append, row_append]
      exact ho'
theorem appendR (R : IsRow P T E c.size bytes z) {ops : Array Oper} {rest : List Oper} {o : Oper} {a : Act} {Q : Exit → Act → World → Prop} (hgd : o.guard = none) (s x : Operand)
    (ho : o.op = .call { callee := .builtin .append, args := #[s, x], argTypes := #[T, T] })
    (B : Nat) (v : Value) (L : List α) (hs : a.eval s = v) (hown : OwnR c E w B v L) (u : Value) (M : List α) (hx : a.eval x = u) (hr : ReadR c w u M)
    (hlen : (L.length + M.length) * bytes ≤ 140737488355328) (hlen2 : L.length + M.length ≤ maxLen) (hB : B ≤ w.heap.size)
    (h : ∀ v' w', OwnR c E w' B v' (L ++ M) → w.grownBy w' v.ownBlock → wpList P ops Q rest (a.put o.dst v') w') : wpList P ops Q (o :: rest) a w :=
  wpList_plain hgd fun _ hK => wp_appendR R s x ho B v L hs hown u M hx hr hlen hlen2 hB fun v' w' h1 h2 => hK _ _ (h v' w' h1 h2)
theorem step_appendR (R : IsRow P T E c.size bytes z) {ops : Array Oper} {o : Oper} {a : Act} {K : Act → World → Prop} {Q : Exit → Act → World → Prop} {G : Prop} (hgd : o.guard = none) (s x : Operand)
    (ho : o.op = .call { callee := .builtin .append, args := #[s, x], argTypes := #[T, T] })
    (B : Nat) (v : Value) (L : List α) (hs : a.eval s = v) (hown : OwnR c E w B v L) (u : Value) (M : List α) (hx : a.eval x = u) (hr : ReadR c w u M)
    (hlen : (L.length + M.length) * bytes ≤ 140737488355328) (hlen2 : L.length + M.length ≤ maxLen) (hB : B ≤ w.heap.size)
    (h : ∀ v' w', OwnR c E w' B v' (L ++ M) → w.grownBy w' v.ownBlock → K (a.put o.dst v') w') :
    if Region.wanted o (yielded ops a.tmps) = true then Oper.wp P o a w K Q else G := by
  rw [if_pos (by simp [Region.wanted, hgd])]
  exact wp_appendR R s x ho B v L hs hown u M hx hr hlen hlen2 hB h
end
end
section
open Go.RowKit
set_option linter.unusedVariables false
set_option linter.unusedSimpArgs false
/-- Some cells are others. -/
def splice (vs : List Value) (o : Nat) (us : List Value) : List Value := vs.take o ++ us ++ vs.drop (o + us.length)
theorem splice_length {vs us : List Value} {o : Nat} (h : o + us.length ≤ vs.length) : (splice vs o us).length = vs.length := by
  unfold splice
  rw [List.length_append, List.length_append, List.length_take, List.length_drop]
  omega
theorem gb_sets {W : World} {b : Nat} : ∀ (us : List Value) (o : Nat) {w : World}, W.grownBy w (some b) → W.grownBy (w.setCells b o us) (some b)
  | [], _, _, h => h
  | v :: r, o, _, h => gb_sets r (o + 1) (gb_set h o none v)
theorem size_sets (b : Nat) : ∀ (us : List Value) (o : Nat) (w : World), (w.setCells b o us).heap.size = w.heap.size
  | [], _, _ => rfl
  | v :: r, o, w => by rw [World.setCells, size_sets b r]; simp
theorem splice_get {vs us : List Value} {o : Nat} (h : o + us.length ≤ vs.length) (i : Nat) : (splice vs o us)[i]? = if i < o then vs[i]? else if i < o + us.length then us[i - o]? else vs[i]? := by
  unfold splice
  have hl : (vs.take o).length = o := by rw [List.length_take]; omega
  split
  · rename_i q
    rw [List.append_assoc, List.getElem?_append_left (by omega), List.getElem?_take_of_lt q]
  · rename_i q
    split
    · rename_i z
      rw [List.getElem?_append_left (by rw [List.length_append]; omega), List.getElem?_append_right (by omega), hl]
    · rename_i z
      rw [List.getElem?_append_right (by rw [List.length_append]; omega), List.getElem?_drop]
      congr 1
      rw [List.length_append, hl]; omega
theorem blk_sets {w : World} {g : Nat} {vs : List Value} (h : Blk w g vs) (o : Nat) (us : List Value) (hl : o + us.length ≤ vs.length) : Blk (w.setCells g o us) g (splice vs o us) := by
  refine ⟨by rw [size_sets]; exact h.1, fun i hi => ?_, fun i => by rw [World.frozen?_setCells]; exact h.2.2 i⟩
  have hi' : i < vs.length := by rw [splice_length hl] at hi; exact hi
  rw [← List.getElem?_eq_getElem hi, splice_get hl]
  rcases Nat.lt_or_ge i o with q | q
  · rw [World.cell?_setCells_out _ _ _ _ _ (fun _ _ => Or.inl q), h.2.1 i hi', if_pos q, List.getElem?_eq_getElem hi']
  · rw [if_neg (by omega)]
    rcases Nat.lt_or_ge i (o + us.length) with z | z
    · have e := World.cell?_setCells_in g us o w (fun j hj => by rw [h.2.1 (o + j) (by omega)]; rfl) (i - o) (by omega)
      rw [show o + (i - o) = i by omega] at e
      rw [e, if_pos z, List.getElem?_eq_getElem (by omega)]
    · rw [World.cell?_setCells_out _ _ _ _ _ (fun _ _ => Or.inr z), h.2.1 i hi', if_neg (by omega), List.getElem?_eq_getElem hi']
section
variable {α : Type} (c : Elt α)
theorem row_take (L : List α) (k : Nat) (h : k ≤ L.length) : (c.row L).take (k * c.size) = c.row (L.take k) := by
  have e : c.row L = c.row (L.take k) ++ c.row (L.drop k) := by rw [← row_append, List.take_append_drop]
  have hl : (c.row (L.take k)).length = k * c.size := by rw [row_length, List.length_take]; congr 1; omega
  rw [e, ← hl, List.take_left]
theorem row_drop (L : List α) (k : Nat) (h : k ≤ L.length) : (c.row L).drop (k * c.size) = c.row (L.drop k) := by
  have e : c.row L = c.row (L.take k) ++ c.row (L.drop k) := by rw [← row_append, List.take_append_drop]
  have hl : (c.row (L.take k)).length = k * c.size := by rw [row_length, List.length_take]; congr 1; omega
  rw [e, ← hl, List.drop_left]
/-- Some elements are others. -/
def lay (L : List α) (k : Nat) (M : List α) : List α := L.take k ++ M ++ L.drop (k + M.length)
theorem lay_length {L M : List α} {k : Nat} (h : k + M.length ≤ L.length) : (lay L k M).length = L.length := by
  unfold lay
  rw [List.length_append, List.length_append, List.length_take, List.length_drop]
  omega
theorem splice_row (L M : List α) (k : Nat) (h : k + M.length ≤ L.length) : splice (c.row L) (k * c.size) (c.row M) = c.row (lay L k M) := by
  unfold splice lay
  rw [row_take c L k (by omega), row_length, ← Nat.add_mul, row_drop c L _ h, row_append, row_append]
theorem lay_one (L : List α) (k : Nat) (x : α) : k < L.length → lay L k [x] = L.set k x := fun h => by
  unfold lay
  rw [List.set_eq_take_append_cons_drop, if_pos h]
  simp
theorem lay_get {L M : List α} {k : Nat} (h : k + M.length ≤ L.length) (i : Nat) (d : α) : (lay L k M).getD i d = if k ≤ i ∧ i < k + M.length then M.getD (i - k) d else L.getD i d := by
  unfold lay
  have hl : (L.take k).length = k := by rw [List.length_take]; omega
  rcases Nat.lt_or_ge i k with q | q
  · rw [if_neg (by omega), List.getD_eq_getElem?_getD, List.getD_eq_getElem?_getD, List.append_assoc, List.getElem?_append_left (by omega), List.getElem?_take_of_lt q]
  · rcases Nat.lt_or_ge i (k + M.length) with z | z
    · rw [if_pos ⟨q, z⟩, List.getD_eq_getElem?_getD, List.getD_eq_getElem?_getD, List.getElem?_append_left (by rw [List.length_append]; omega), List.getElem?_append_right (by omega), hl]
    · rw [if_neg (by omega), List.getD_eq_getElem?_getD, List.getD_eq_getElem?_getD, List.getElem?_append_right (by rw [List.length_append]; omega), List.getElem?_drop]
      congr 2
      rw [List.length_append, hl]; omega
theorem blk_lay {w : World} {g k : Nat} {L M : List α} (h : Blk w g (c.row L)) (hk : k + M.length ≤ L.length) : Blk (w.setCells g (k * c.size) (c.row M)) g (c.row (lay L k M)) := by
  rw [← splice_row c L M k hk]
  refine blk_sets h _ _ ?_
  rw [row_length, row_length, ← Nat.add_mul]
  exact Nat.mul_le_mul_right _ hk
theorem blk_elt {w : World} {g k : Nat} {L : List α} (h : Blk w g (c.row L)) (hk : k < L.length) (x : α) : Blk (w.setCells g (k * c.size) (c.cells x)) g (c.row (L.set k x)) := by
  have := blk_lay c (M := [x]) (k := k) h (by simp; omega)
  rwa [row_one, lay_one _ _ _ hk] at this
theorem made_row (z : Value) (x : α) (hz : z.cells.toList = c.cells x) (n : Nat) : (madeCells z.cells (n * c.size)).toList = c.row (List.replicate n x) := by
  have hp := c.pos
  have hzs : z.cells.size = c.size := by rw [← c.len x, ← hz]; simp
  refine row_ext c (by simp [size_madeCells]) (fun k hk j hj => ?_)
  have hk' : k < n := by simpa using hk
  have hlt : k * c.size + j < n * c.size := by
    have := Nat.mul_le_mul_right c.size (Nat.succ_le_of_lt hk')
    rw [Nat.succ_mul] at this; omega
  unfold madeCells
  rw [List.getElem_replicate, ← hz, Array.getElem?_toList, Array.getElem?_toList, Array.getElem?_map, Array.getElem?_range, if_pos hlt, Option.map_some]
  have hm : (k * c.size + j) % z.cells.size = j := by rw [hzs, Nat.add_comm, Nat.add_mul_mod_self_right, Nat.mod_eq_of_lt hj]
  rw [hm, Array.getElem?_eq_getElem (by omega), getElem!_pos z.cells j (by omega)]
theorem zero_row (z : Value) (x : α) (hz : z.cells.toList = c.cells x) (n : Nat) : (Builtin.zeroCells z.cells n).toList = c.row (List.replicate n x) := by
  have hzs : z.cells.size = c.size := by rw [← c.len x, ← hz]; simp
  have e : Builtin.zeroCells z.cells n = madeCells z.cells (n * c.size) := by unfold Builtin.zeroCells madeCells; rw [hzs]
  rw [e, made_row c z x hz n]
variable {c} {P : Program} {T E : TypeId} {bytes : Nat} {z : Value}
theorem run_makeR (R : IsRow P T E c.size bytes z) (kl kc : IntKind) (n : Nat) (hb : bytes * n ≤ 281474976710656) (hn : n ≤ 9223372036854775807) (w : World) :
    (Instr.makeSlice T (.int kl (n : Int)) (.int kc (n : Int))).run P w = .ok (.slice (some ⟨w.heap.size, 0, none⟩) n n) (w.alloc (.cells (madeCells z.cells (n * c.size)) E)) := by
  obtain ⟨i, hi, hz, hs1, hb1⟩ := info_parts R.inf
  have hb' : (i.bytes : Int) * (n : Int) ≤ 281474976710656 := by
    rw [hb1]
    have h : ((bytes * n : Nat) : Int) ≤ 281474976710656 := by omega
    rwa [Int.natCast_mul] at h
  have hr := run_make (P := P) w T E i z R.und hi hz kl kc n n (by omega) (by omega) hb' (by omega)
  simp only [Int.toNat_natCast, hs1] at hr
  exact hr
theorem blk_make (w : World) (x : α) (hz : z.cells.toList = c.cells x) (n : Nat) : Blk (w.alloc (.cells (madeCells z.cells (n * c.size)) E)) w.heap.size (c.row (List.replicate n x)) := by
  rw [← made_row c z x hz n]; exact blk_new _ _ _
/-- 'append(s, nothing...)'. -/
theorem run_append_zero (R : IsRow P T E c.size bytes z) (w : World) (ty : TypeId) (g : Nat) (ad : Addr) (cap : Nat) :
    (Builtin.append_ #[T, T] ty #[.slice (some ⟨g, 0, none⟩) 0 0, .slice (some ad) 0 cap]).run P w = .ok (.slice (some ⟨g, 0, none⟩) 0 0) w := by
  obtain ⟨i, hi, hz, hs1, hb1⟩ := info_parts R.inf
  simp [Builtin.append_, run_underlying R.und, sizeOf, typeInfo, hi, Builtin.lenOf, Builtin.firstCells, storeCells, loadCells, loadCellsFrom]
theorem appendR0 (R : IsRow P T E c.size bytes z) {ops : Array Oper} {rest : List Oper} {o : Oper} {a : Act} {Q : Exit → Act → World → Prop} {w : World} (hgd : o.guard = none) (s x : Operand)
    (ho : o.op = .call { callee := .builtin .append, args := #[s, x], argTypes := #[T, T] }) (g : Nat) (ad : Addr) (cap : Nat) (hs : a.eval s = .slice (some ⟨g, 0, none⟩) 0 0) (hx : a.eval x = .slice (some ad) 0 cap)
    (h : wpList P ops Q rest (a.put o.dst (.slice (some ⟨g, 0, none⟩) 0 0)) w) : wpList P ops Q (o :: rest) a w :=
  wpList_plain hgd fun _ hK => by
    have hrun := run_append_zero R w o.type g ad cap
    unfold Oper.wp
    simp [execOp, ho, resolve, invoke, builtin, hs, hx, hrun, Result.andThen]
    exact hK _ _ h
/-- 'clear(s)'. -/
theorem run_clearR (R : IsRow P T E c.size bytes z) (hv : ∀ w, (zeroValue E).run P w = .ok z w) (x : α) (hz : z.cells.toList = c.cells x) {w : World} {g k n cap : Nat} {ty : TypeId} {L : List α} (h : Blk w g (c.row L)) (hk : k + n ≤ L.length) (hn : 0 < n) :
    (Builtin.clear_ #[T] ty #[.slice (some ⟨g, k * c.size, none⟩) n cap]).run P w = .ok (.tuple #[]) (w.setCells g (k * c.size) (c.row (List.replicate n x))) := by
  have hlen : (c.row (List.replicate n x)).length = n * c.size := by rw [row_length]; simp
  have hcell : ∀ j, j < n * c.size → k * c.size + j < (c.row L).length := fun j hj => by
    rw [row_length]
    have := Nat.mul_le_mul_right c.size hk
    rw [Nat.add_mul] at this; omega
  have hst := run_storeCells_cells (P := P) g (k * c.size) (c.row (List.replicate n x)) 0 w (fun j hj => by
    rw [hlen] at hj
    rw [Nat.add_zero, h.2.1 _ (hcell j hj)]; rfl) (fun j hj => h.2.2 _) (fun v hv' => row_mem c v hv')
  simp only [Nat.add_zero] at hst
  obtain ⟨m, rfl⟩ : ∃ m, n = m + 1 := ⟨n - 1, by omega⟩
  have hzr := zero_row c z x hz (m + 1)
  simp [Builtin.clear_, run_underlying R.und, hv, hzr, hst]
end
end
section
open Go.RowKit
set_option linter.unusedVariables false
set_option linter.unusedSimpArgs false
section
variable {α : Type} {c : Elt α} {P : Program} {T E : TypeId} {bytes : Nat} {z : Value}
theorem below_none {w w' : World} (h : w.grownBy w' none) : Below w.heap.size w w' := ⟨h.os, h.tape, h.output, h.size, fun k hk => h.block k hk (by intro e; cases e)⟩
theorem run_append_nil0 (R : IsRow P T E c.size bytes z) (w : World) (ty : TypeId) (g cap : Nat) :
    (Builtin.append_ #[T, T] ty #[.slice (some ⟨g, 0, none⟩) 0 0, .slice none 0 cap]).run P w = .ok (.slice (some ⟨g, 0, none⟩) 0 0) w := by
  obtain ⟨i, hi, hz, hs1, hb1⟩ := info_parts R.inf
  simp [Builtin.append_, run_underlying R.und, sizeOf, typeInfo, hi, Builtin.lenOf, Builtin.firstCells, storeCells]
/-- Of which type a block's cells are. -/
def tyB (w : World) (b : Nat) : Option TypeId := match w.heap[b]? with
  | some (.cells _ T _) => some T
  | _ => none
theorem tyB_block {w w' : World} {b : Nat} (h : w'.heap[b]? = w.heap[b]?) : tyB w' b = tyB w b := by unfold tyB; rw [h]
theorem tyB_below {w w' : World} {b : Nat} (hb : Below w.heap.size w w') (hlt : b < w.heap.size) : tyB w' b = tyB w b := tyB_block (hb.block b hlt)
theorem tyB_new (w : World) (cs : Array Value) (T : TypeId) : tyB (w.alloc (.cells cs T)) w.heap.size = some T := by unfold tyB; rw [(MapKept.heap_alloc w _).1]
theorem tyB_new2 {w : World} {cs : Array Value} {T : TypeId} {k : Nat} (hk : k = w.heap.size) : tyB (w.alloc (.cells cs T)) k = some T := by rw [hk]; exact tyB_new w cs T
theorem tyB_set (w : World) (p : Addr) (u : Value) (b : Nat) : tyB (w.setCell p u) b = tyB w b := by
  by_cases e : p.block = b
  · subst e
    unfold tyB
    simp only [World.setCell, Array.getElem?_modify, if_true]
    cases hh : w.heap[p.block]? with
    | none => rfl
    | some o => cases o <;> simp
  · exact tyB_block (Below.heap_setCell _ _ _ _ (by omega))
theorem tyB_drew (w : World) (b : Nat) : tyB w.drew b = tyB w b := rfl
theorem tyB_alloc {w : World} {b : Nat} {T : TypeId} (h : tyB w b = some T) (o : Obj) : tyB (w.alloc o) b = some T := by
  have hlt : b < w.heap.size := by
    rcases Nat.lt_or_ge b w.heap.size with q | q
    · exact q
    · unfold tyB at h; rw [Array.getElem?_eq_none q] at h; cases h
  rw [tyB_below (b_alloc (Below.refl _ _) o) hlt]; exact h
theorem tyB_lt {w : World} {b : Nat} {T : TypeId} (h : tyB w b = some T) : b < w.heap.size := by
  rcases Nat.lt_or_ge b w.heap.size with q | q
  · exact q
  · unfold tyB at h; rw [Array.getElem?_eq_none q] at h; cases h
theorem tyB_call {w w' : World} {b : Nat} {T : TypeId} (h : tyB w b = some T) (hb : Below w.heap.size w w') : tyB w' b = some T := by rw [tyB_below hb (tyB_lt h)]; exact h
theorem tyB_grown {w w' : World} {b : Nat} {T : TypeId} {r : Option Nat} (h : tyB w b = some T) (hg : w.grownBy w' r) (hn : some b ≠ r) : tyB w' b = some T := by rw [tyB_block (hg.block b (tyB_lt h) hn)]; exact h
theorem ownR_ty {w : World} {B : Nat} {v : Value} {L : List α} (h : OwnR c E w B v L) : ∀ k, v.ownBlock = some k → tyB w k = some E := fun k hk => by
  rcases h.2 with ⟨rfl, _⟩ | ⟨g, cap, cur, rfl, _, hh, _⟩
  · cases hk
  · have e : g = k := by have e1 : some g = some k := hk; injection e1
    subst e
    unfold tyB; rw [hh]
/-- What such an append makes. -/
def NewRow (c : Elt α) (E : TypeId) (w w' : World) (v : Value) (M : List α) : Prop := ReadR c w' v M ∧ (∃ k cap, v = .slice (some ⟨k, 0, none⟩) M.length cap ∧ (M = [] ∨ (w.heap.size ≤ k ∧ tyB w' k = some E))) ∧ Below w.heap.size w w'
/-- A store into an older block leaves it. -/
theorem newRow_set {w : World} {k cap B : Nat} {M : List α} (h : ReadR c w (.slice (some ⟨k, 0, none⟩) M.length cap) M) (hk : M = [] ∨ B ≤ k) {p : Addr} (hp : p.block < B) (u : Value) : ReadR c (w.setCell p u) (.slice (some ⟨k, 0, none⟩) M.length cap) M := by
  rcases hk with rfl | hk
  · obtain ⟨a, c', e, h1, h2, h3, h4⟩ := h
    exact ⟨a, c', e, h1, h2, h3, fun hp => by simp at hp⟩
  · refine readR_kept h (fun b hb hlt => ?_) (by simp)
    have e : b = k := by have e1 : some b = some k := hb.symm; injection e1
    subst e
    exact Below.heap_setCell _ _ _ _ (by omega)
theorem wp_appendNew (R : IsRow P T E c.size bytes z) {o : Oper} {a : Act} {K : Act → World → Prop} {Q : Exit → Act → World → Prop} {w : World} (s x : Operand)
    (ho : o.op = .call { callee := .builtin .append, args := #[s, x], argTypes := #[T, T] }) (g : Nat) (hs : a.eval s = .slice (some ⟨g, 0, none⟩) 0 0)
    (u : Value) (M : List α) (hx : a.eval x = u) (hr : ReadR c w u M) (hlen : M.length * bytes ≤ 140737488355328) (hlen2 : M.length ≤ maxLen)
    (h : ∀ v' w', NewRow c E w w' v' M → K (a.put o.dst v') w') : Oper.wp P o a w K Q := by
  obtain ⟨i, hi, hz, hs1, hb1⟩ := info_parts R.inf
  obtain ⟨a', cap, rfl, h1, h2, h3, h4⟩ := hr
  have h0 : ∀ v, M = [] → (Builtin.append_ #[T, T] o.type #[.slice (some ⟨g, 0, none⟩) 0 0, v]).run P w = .ok (.slice (some ⟨g, 0, none⟩) 0 0) w → a.eval x = v → Oper.wp P o a w K Q := by
    intro v hM hrun hv
    subst hM
    unfold Oper.wp
    simp [execOp, ho, resolve, invoke, builtin, hs, hv, hrun, Result.andThen]
    exact h _ w ⟨⟨some ⟨g, 0, none⟩, 0, rfl, Nat.le_refl _, Nat.zero_le _, (fun h => by cases h), fun hp => by simp at hp⟩, ⟨g, 0, rfl, Or.inl rfl⟩, Below.refl _ _⟩
  rcases Nat.eq_zero_or_pos M.length with q | q
  · have hM : M = [] := List.eq_nil_of_length_eq_zero q
    cases a' with
    | none => exact h0 _ hM (by rw [hM]; exact run_append_nil0 R w _ g cap) hx
    | some ad => exact h0 _ hM (by rw [hM]; exact run_append_zero R w _ g ad cap) hx
  · obtain ⟨b, off, rfl, _, h6⟩ := h4 q
    obtain ⟨v', w', hrun, r1, r2⟩ := run_append_arg_grows (P := P) w T o.type E i z c.size bytes R.und hi hz hs1 hb1 R.zs c.pos ⟨g, 0, none⟩ 0 0 [] (by simp) (fun j u hj => by simp at hj) ⟨b, off, none⟩ M.length cap (c.row M) (row_length c M) (fun j u hj => by
      have hlt : j < M.length * c.size := by
        rcases Nat.lt_or_ge j (M.length * c.size) with q | q
        · exact q
        · rw [List.getElem?_eq_none (by rw [row_length]; exact q)] at hj; cases hj
      have hp := c.pos
      have e : j / c.size * c.size + j % c.size = j := by rw [Nat.mul_comm]; exact Nat.div_add_mod j c.size
      have hm := Nat.mod_lt j hp
      have hk : j / c.size < M.length := row_split c hp (j := j % c.size) (by rw [e]; exact hlt) hm
      have q := h6 _ hk _ hm
      rw [← row_at c M _ hk _ hm, e] at q
      rw [Addr.add_lit, q, hj]) (by omega) (by omega) (by rw [Nat.zero_add]; exact hlen)
    unfold Oper.wp
    simp [execOp, ho, resolve, invoke, builtin, hs, hx, hrun, Result.andThen]
    have own : OwnR c E w' w.heap.size v' M := by
      unfold OwnR
      simpa using r1
    obtain ⟨k, cp, hv, hk, _⟩ := ownR_form own q
    exact h v' w' ⟨ownR_read own, ⟨k, cp, hv, Or.inr ⟨hk, ownR_ty own k (by rw [hv]; rfl)⟩⟩, below_none r2⟩
theorem appendNew (R : IsRow P T E c.size bytes z) {ops : Array Oper} {rest : List Oper} {o : Oper} {a : Act} {Q : Exit → Act → World → Prop} {w : World} (hgd : o.guard = none) (s x : Operand)
    (ho : o.op = .call { callee := .builtin .append, args := #[s, x], argTypes := #[T, T] }) (g : Nat) (hs : a.eval s = .slice (some ⟨g, 0, none⟩) 0 0)
    (u : Value) (M : List α) (hx : a.eval x = u) (hr : ReadR c w u M) (hlen : M.length * bytes ≤ 140737488355328) (hlen2 : M.length ≤ maxLen)
    (h : ∀ v' w', NewRow c E w w' v' M → wpList P ops Q rest (a.put o.dst v') w') : wpList P ops Q (o :: rest) a w :=
  wpList_plain hgd fun _ hK => wp_appendNew R s x ho g hs u M hx hr hlen hlen2 fun v' w' h1 => hK _ _ (h v' w' h1)
theorem step_appendNew (R : IsRow P T E c.size bytes z) {ops : Array Oper} {o : Oper} {a : Act} {K : Act → World → Prop} {Q : Exit → Act → World → Prop} {G : Prop} {w : World} (hgd : o.guard = none) (s x : Operand)
    (ho : o.op = .call { callee := .builtin .append, args := #[s, x], argTypes := #[T, T] }) (g : Nat) (hs : a.eval s = .slice (some ⟨g, 0, none⟩) 0 0)
    (u : Value) (M : List α) (hx : a.eval x = u) (hr : ReadR c w u M) (hlen : M.length * bytes ≤ 140737488355328) (hlen2 : M.length ≤ maxLen)
    (h : ∀ v' w', NewRow c E w w' v' M → K (a.put o.dst v') w') : if Region.wanted o (yielded ops a.tmps) = true then Oper.wp P o a w K Q else G := by
  rw [if_pos (by simp [Region.wanted, hgd])]
  exact wp_appendNew R s x ho g hs u M hx hr hlen hlen2 h
end
end
end Go.Proofs.YtedmjlhgpdeafaaDoor
