/- Rows of many-celled elements that are made, written, cleared. Over any program. No conditions beside those stated. -/
import Derived.Test.YtedmjlhgpdeafaaDoorRow
import Derived.Laws.IdiomCopy
import Derived.Laws.MakeOwn
import Derived.Lib.SliceRun
namespace Go.Proofs.YtedmjlhgpdeafaaDoor
open Go.RowKit
set_option linter.unusedVariables false
set_option linter.unusedSimpArgs false
/-- Some cells are others. -/
def splice (vs : List Value) (o : Nat) (us : List Value) : List Value := vs.take o ++ us ++ vs.drop (o + us.length)
theorem splice_length {vs us : List Value} {o : Nat} (h : o + us.length ≤ vs.length) : (splice vs o us).length = vs.length := by
  unfold splice
  rw [List.length_append, List.length_append, List.length_take, List.length_drop]
  omega
theorem gb_sets {W : World} {b : Nat} : ∀ (us : List Value) (o : Nat) {w : World}, W.grownBy w (some b) → W.grownBy (w.setCells b o us) (some b)
  | [], _, _, h => h
  | v :: r, o, _, h => gb_sets r (o + 1) (gb_set h o none v)
theorem size_sets (b : Nat) : ∀ (us : List Value) (o : Nat) (w : World), (w.setCells b o us).heap.size = w.heap.size
  | [], _, _ => rfl
  | v :: r, o, w => by rw [World.setCells, size_sets b r]; simp
theorem splice_get {vs us : List Value} {o : Nat} (h : o + us.length ≤ vs.length) (i : Nat) : (splice vs o us)[i]? = if i < o then vs[i]? else if i < o + us.length then us[i - o]? else vs[i]? := by
  unfold splice
  have hl : (vs.take o).length = o := by rw [List.length_take]; omega
  split
  · rename_i q
    rw [List.append_assoc, List.getElem?_append_left (by omega), List.getElem?_take_of_lt q]
  · rename_i q
    split
    · rename_i z
      rw [List.getElem?_append_left (by rw [List.length_append]; omega), List.getElem?_append_right (by omega), hl]
    · rename_i z
      rw [List.getElem?_append_right (by rw [List.length_append]; omega), List.getElem?_drop]
      congr 1
      rw [List.length_append, hl]; omega
theorem blk_sets {w : World} {g : Nat} {vs : List Value} (h : Blk w g vs) (o : Nat) (us : List Value) (hl : o + us.length ≤ vs.length) : Blk (w.setCells g o us) g (splice vs o us) := by
  refine ⟨by rw [size_sets]; exact h.1, fun i hi => ?_, fun i => by rw [World.frozen?_setCells]; exact h.2.2 i⟩
  have hi' : i < vs.length := by rw [splice_length hl] at hi; exact hi
  rw [← List.getElem?_eq_getElem hi, splice_get hl]
  rcases Nat.lt_or_ge i o with q | q
  · rw [World.cell?_setCells_out _ _ _ _ _ (fun _ _ => Or.inl q), h.2.1 i hi', if_pos q, List.getElem?_eq_getElem hi']
  · rw [if_neg (by omega)]
    rcases Nat.lt_or_ge i (o + us.length) with z | z
    · have e := World.cell?_setCells_in g us o w (fun j hj => by rw [h.2.1 (o + j) (by omega)]; rfl) (i - o) (by omega)
      rw [show o + (i - o) = i by omega] at e
      rw [e, if_pos z, List.getElem?_eq_getElem (by omega)]
    · rw [World.cell?_setCells_out _ _ _ _ _ (fun _ _ => Or.inr z), h.2.1 i hi', if_neg (by omega), List.getElem?_eq_getElem hi']
section
variable {α : Type} (c : Elt α)
theorem row_take (L : List α) (k : Nat) (h : k ≤ L.length) : (c.row L).take (k * c.size) = c.row (L.take k) := by
  have e : c.row L = c.row (L.take k) ++ c.row (L.drop k) := by rw [← row_append, List.take_append_drop]
  have hl : (c.row (L.take k)).length = k * c.size := by rw [row_length, List.length_take]; congr 1; omega
  rw [e, ← hl, List.take_left]
theorem row_drop (L : List α) (k : Nat) (h : k ≤ L.length) : (c.row L).drop (k * c.size) = c.row (L.drop k) := by
  have e : c.row L = c.row (L.take k) ++ c.row (L.drop k) := by rw [← row_append, List.take_append_drop]
  have hl : (c.row (L.take k)).length = k * c.size := by rw [row_length, List.length_take]; congr 1; omega
  rw [e, ← hl, List.drop_left]
/-- Some elements are others. -/
def lay (L : List α) (k : Nat) (M : List α) : List α := L.take k ++ M ++ L.drop (k + M.length)
theorem lay_length {L M : List α} {k : Nat} (h : k + M.length ≤ L.length) : (lay L k M).length = L.length := by
  unfold lay
  rw [List.length_append, List.length_append, List.length_take, List.length_drop]
  omega
theorem splice_row (L M : List α) (k : Nat) (h : k + M.length ≤ L.length) : splice (c.row L) (k * c.size) (c.row M) = c.row (lay L k M) := by
  unfold splice lay
  rw [row_take c L k (by omega), row_length, ← Nat.add_mul, row_drop c L _ h, row_append, row_append]
theorem lay_one (L : List α) (k : Nat) (x : α) : k < L.length → lay L k [x] = L.set k x := fun h => by
  unfold lay
  rw [List.set_eq_take_append_cons_drop, if_pos h]
  simp
theorem lay_get {L M : List α} {k : Nat} (h : k + M.length ≤ L.length) (i : Nat) (d : α) : (lay L k M).getD i d = if k ≤ i ∧ i < k + M.length then M.getD (i - k) d else L.getD i d := by
  unfold lay
  have hl : (L.take k).length = k := by rw [List.length_take]; omega
  rcases Nat.lt_or_ge i k with q | q
  · rw [if_neg (by omega), List.getD_eq_getElem?_getD, List.getD_eq_getElem?_getD, List.append_assoc, List.getElem?_append_left (by omega), List.getElem?_take_of_lt q]
  · rcases Nat.lt_or_ge i (k + M.length) with z | z
    · rw [if_pos ⟨q, z⟩, List.getD_eq_getElem?_getD, List.getD_eq_getElem?_getD, List.getElem?_append_left (by rw [List.length_append]; omega), List.getElem?_append_right (by omega), hl]
    · rw [if_neg (by omega), List.getD_eq_getElem?_getD, List.getD_eq_getElem?_getD, List.getElem?_append_right (by rw [List.length_append]; omega), List.getElem?_drop]
      congr 2
      rw [List.length_append, hl]; omega
theorem blk_lay {w : World} {g k : Nat} {L M : List α} (h : Blk w g (c.row L)) (hk : k + M.length ≤ L.length) : Blk (w.setCells g (k * c.size) (c.row M)) g (c.row (lay L k M)) := by
  rw [← splice_row c L M k hk]
  refine blk_sets h _ _ ?_
  rw [row_length, row_length, ← Nat.add_mul]
  exact Nat.mul_le_mul_right _ hk
theorem blk_elt {w : World} {g k : Nat} {L : List α} (h : Blk w g (c.row L)) (hk : k < L.length) (x : α) : Blk (w.setCells g (k * c.size) (c.cells x)) g (c.row (L.set k x)) := by
  have := blk_lay c (M := [x]) (k := k) h (by simp; omega)
  rwa [row_one, lay_one _ _ _ hk] at this
theorem made_row (z : Value) (x : α) (hz : z.cells.toList = c.cells x) (n : Nat) : (madeCells z.cells (n * c.size)).toList = c.row (List.replicate n x) := by
  have hp := c.pos
  have hzs : z.cells.size = c.size := by rw [← c.len x, ← hz]; simp
  refine row_ext c (by simp [size_madeCells]) (fun k hk j hj => ?_)
  have hk' : k < n := by simpa using hk
  have hlt : k * c.size + j < n * c.size := by
    have := Nat.mul_le_mul_right c.size (Nat.succ_le_of_lt hk')
    rw [Nat.succ_mul] at this; omega
  unfold madeCells
  rw [List.getElem_replicate, ← hz, Array.getElem?_toList, Array.getElem?_toList, Array.getElem?_map, Array.getElem?_range, if_pos hlt, Option.map_some]
  have hm : (k * c.size + j) % z.cells.size = j := by rw [hzs, Nat.add_comm, Nat.add_mul_mod_self_right, Nat.mod_eq_of_lt hj]
  rw [hm, Array.getElem?_eq_getElem (by omega), getElem!_pos z.cells j (by omega)]
theorem zero_row (z : Value) (x : α) (hz : z.cells.toList = c.cells x) (n : Nat) : (Builtin.zeroCells z.cells n).toList = c.row (List.replicate n x) := by
  have hzs : z.cells.size = c.size := by rw [← c.len x, ← hz]; simp
  have e : Builtin.zeroCells z.cells n = madeCells z.cells (n * c.size) := by unfold Builtin.zeroCells madeCells; rw [hzs]
  rw [e, made_row c z x hz n]
variable {c} {P : Program} {T E : TypeId} {bytes : Nat} {z : Value}
theorem run_makeR (R : IsRow P T E c.size bytes z) (kl kc : IntKind) (n : Nat) (hb : bytes * n ≤ 281474976710656) (hn : n ≤ 9223372036854775807) (w : World) :
    (Instr.makeSlice T (.int kl (n : Int)) (.int kc (n : Int))).run P w = .ok (.slice (some ⟨w.heap.size, 0, none⟩) n n) (w.alloc (.cells (madeCells z.cells (n * c.size)) E)) := by
  obtain ⟨i, hi, hz, hs1, hb1⟩ := info_parts R.inf
  have hb' : (i.bytes : Int) * (n : Int) ≤ 281474976710656 := by
    rw [hb1]
    have h : ((bytes * n : Nat) : Int) ≤ 281474976710656 := by omega
    rwa [Int.natCast_mul] at h
  have hr := run_make (P := P) w T E i z R.und hi hz kl kc n n (by omega) (by omega) hb' (by omega)
  simp only [Int.toNat_natCast, hs1] at hr
  exact hr
theorem blk_make (w : World) (x : α) (hz : z.cells.toList = c.cells x) (n : Nat) : Blk (w.alloc (.cells (madeCells z.cells (n * c.size)) E)) w.heap.size (c.row (List.replicate n x)) := by
  rw [← made_row c z x hz n]; exact blk_new _ _ _
/-- 'append(s, nothing...)'. -/
theorem run_append_zero (R : IsRow P T E c.size bytes z) (w : World) (ty : TypeId) (g : Nat) (ad : Addr) (cap : Nat) :
    (Builtin.append_ #[T, T] ty #[.slice (some ⟨g, 0, none⟩) 0 0, .slice (some ad) 0 cap]).run P w = .ok (.slice (some ⟨g, 0, none⟩) 0 0) w := by
  obtain ⟨i, hi, hz, hs1, hb1⟩ := info_parts R.inf
  simp [Builtin.append_, run_underlying R.und, sizeOf, typeInfo, hi, Builtin.lenOf, Builtin.firstCells, storeCells, loadCells, loadCellsFrom]
theorem appendR0 (R : IsRow P T E c.size bytes z) {ops : Array Oper} {rest : List Oper} {o : Oper} {a : Act} {Q : Exit → Act → World → Prop} {w : World} (hgd : o.guard = none) (s x : Operand)
    (ho : o.op = .call { callee := .builtin .append, args := #[s, x], argTypes := #[T, T] }) (g : Nat) (ad : Addr) (cap : Nat) (hs : a.eval s = .slice (some ⟨g, 0, none⟩) 0 0) (hx : a.eval x = .slice (some ad) 0 cap)
    (h : wpList P ops Q rest (a.put o.dst (.slice (some ⟨g, 0, none⟩) 0 0)) w) : wpList P ops Q (o :: rest) a w :=
  wpList_plain hgd fun _ hK => by
    have hrun := run_append_zero R w o.type g ad cap
    unfold Oper.wp
    simp [execOp, ho, resolve, invoke, builtin, hs, hx, hrun, Result.andThen]
    exact hK _ _ h
/-- 'clear(s)'. -/
theorem run_clearR (R : IsRow P T E c.size bytes z) (hv : ∀ w, (zeroValue E).run P w = .ok z w) (x : α) (hz : z.cells.toList = c.cells x) {w : World} {g k n cap : Nat} {ty : TypeId} {L : List α} (h : Blk w g (c.row L)) (hk : k + n ≤ L.length) (hn : 0 < n) :
    (Builtin.clear_ #[T] ty #[.slice (some ⟨g, k * c.size, none⟩) n cap]).run P w = .ok (.tuple #[]) (w.setCells g (k * c.size) (c.row (List.replicate n x))) := by
  have hlen : (c.row (List.replicate n x)).length = n * c.size := by rw [row_length]; simp
  have hcell : ∀ j, j < n * c.size → k * c.size + j < (c.row L).length := fun j hj => by
    rw [row_length]
    have := Nat.mul_le_mul_right c.size hk
    rw [Nat.add_mul] at this; omega
  have hst := run_storeCells_cells (P := P) g (k * c.size) (c.row (List.replicate n x)) 0 w (fun j hj => by
    rw [hlen] at hj
    rw [Nat.add_zero, h.2.1 _ (hcell j hj)]; rfl) (fun j hj => h.2.2 _) (fun v hv' => row_mem c v hv')
  simp only [Nat.add_zero] at hst
  obtain ⟨m, rfl⟩ : ∃ m, n = m + 1 := ⟨n - 1, by omega⟩
  have hzr := zero_row c z x hz (m + 1)
  simp [Builtin.clear_, run_underlying R.und, hv, hzr, hst]
end
end Go.Proofs.YtedmjlhgpdeafaaDoor
