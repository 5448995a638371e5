/- Slices of ints: read as lists, or owned by the call. No conditions beside those stated. Layer 25: what programs are, in memory and as lists. No program in sight but the ints' type. No conditions. -/
import Derived.Test.YtedmjlhgpdeafaaDoorProg
import Derived.Test.YtedmjlhgpdeafaaDoorQBase
import Derived.Test.YtedmjlhgpdeafaaDoorQRow
namespace Go.Proofs.YtedmjlhgpdeafaaDoor
section
open Go.RowKit
set_option linter.unusedVariables false
set_option linter.unusedSimpArgs false
theorem Tryd.infoInt : (Tryd.prog.info? 3).map (fun i => (i.zero, i.size, i.bytes)) = some (some (.int .i64 0), 1, 8) := by kernel_rfl
def ints (xs : List Int) : List Value := xs.map (Value.int .i64)
theorem ints_length (xs : List Int) : (ints xs).length = xs.length := by unfold ints; simp
/-- A slice value that the call itself has made, from block B on. -/
def OwnI (w : World) (B : Nat) (v : Value) (xs : List Int) : Prop := w.ownsRow B 3 1 v xs.length (ints xs)
def RetOwnI (w : World) (xs : List Int) (e : Ending) (w' : World) : Prop := ∃ v, e = .returned v ∧ OwnI w' w.heap.size v xs ∧ Below w.heap.size w w'
/-- A slice value that reads as a list. -/
def ReadI (w : World) (v : Value) (xs : List Int) : Prop :=
  ∃ a cap, v = .slice a xs.length cap ∧ xs.length ≤ cap ∧ cap ≤ maxLen ∧ (a = none → cap = 0) ∧ (0 < xs.length → ∃ b o, a = some ⟨b, o, none⟩ ∧ b < w.heap.size ∧ ∀ i, i < xs.length → w.cell? ⟨b, o + i, none⟩ = some (.int .i64 (xs.getD i 0)))
theorem readI_mk {w : World} {b o cap : Nat} {xs : List Int} (h1 : xs.length ≤ cap) (h2 : cap ≤ maxLen) (h3 : b < w.heap.size) (h4 : ∀ i, i < xs.length → w.cell? ⟨b, o + i, none⟩ = some (.int .i64 (xs.getD i 0))) : ReadI w (.slice (some ⟨b, o, none⟩) xs.length cap) xs :=
  ⟨_, cap, rfl, h1, h2, fun h => (by cases h), fun _ => ⟨b, o, rfl, h3, h4⟩⟩
theorem readI_nil (w : World) : ReadI w (.slice none 0 0) [] := ⟨none, 0, rfl, Nat.le_refl _, Nat.zero_le _, fun _ => rfl, fun h => by simp at h⟩
theorem ownI_nil (w : World) (B : Nat) : OwnI w B (.slice none 0 0) [] := World.ownsRow_nil _ _ _ _
theorem ownI_read {w : World} {B : Nat} {v : Value} {xs : List Int} (h : OwnI w B v xs) : ReadI w v xs := by
  obtain ⟨h1, h2⟩ := h
  rcases h2 with ⟨rfl, h3⟩ | ⟨g, cap, cur, rfl, h3, h4, h5, h6, h7, h8⟩
  · have e := List.eq_nil_of_length_eq_zero h3
    subst e; exact readI_nil w
  · refine readI_mk h5 h6 ?_ (fun i hi => ?_)
    · rcases Nat.lt_or_ge g w.heap.size with h | h
      · exact h
      · rw [Array.getElem?_eq_none h] at h4; cases h4
    · have e : cur[i]? = some (.int .i64 (xs.getD i 0)) := by
        have e2 : (cur.toList.take (xs.length * 1))[i]? = (ints xs)[i]? := by rw [h8]
        rw [List.getElem?_take_of_lt (by omega), Array.getElem?_toList] at e2
        rw [e2]; unfold ints
        rw [List.getElem?_map, List.getD_eq_getElem?_getD, List.getElem?_eq_getElem hi]; rfl
      simp [World.cell?, h4, e]
theorem readI_kept {w w' : World} {v : Value} {xs : List Int} (h : ReadI w v xs) (hk : ∀ b, v.ownBlock = some b → b < w.heap.size → w'.heap[b]? = w.heap[b]?) (hs : w.heap.size ≤ w'.heap.size) : ReadI w' v xs := by
  obtain ⟨a, cap, rfl, h1, h2, h3, h4⟩ := h
  refine ⟨a, cap, rfl, h1, h2, h3, fun hp => ?_⟩
  obtain ⟨b, o, rfl, h5, h6⟩ := h4 hp
  exact ⟨b, o, rfl, by omega, fun i hi => (World.cell?_of_block (w := w) (hk b rfl h5)).trans (h6 i hi)⟩
theorem readI_below {w w' : World} {v : Value} {xs : List Int} (h : ReadI w v xs) (hb : Below w.heap.size w w') : ReadI w' v xs :=
  readI_kept h (fun b _ hlt => hb.block b hlt) hb.size
theorem ownI_mono {w : World} {B B' : Nat} {v : Value} {xs : List Int} (h : OwnI w B v xs) (hB : B' ≤ B) : OwnI w B' v xs := by
  obtain ⟨h1, h2⟩ := h
  rcases h2 with h2 | ⟨g, cap, cur, rfl, h3, h4⟩
  · exact ⟨h1, Or.inl h2⟩
  · exact ⟨h1, Or.inr ⟨g, cap, cur, rfl, Nat.le_trans hB h3, h4⟩⟩
theorem ownI_lt {w : World} {B : Nat} {v : Value} {xs : List Int} (h : OwnI w B v xs) : ∀ k, v.ownBlock = some k → B ≤ k ∧ k < w.heap.size := World.ownsRow.lt h
theorem ownI_kept {w w' : World} {B : Nat} {v : Value} {xs : List Int} {r : Option Nat} (h : OwnI w B v xs) (hg : w.grownBy w' r) (hne : v.ownBlock = none ∨ v.ownBlock ≠ r) : OwnI w' B v xs := World.ownsRow.kept h hg hne
theorem ownI_below {w w' : World} {B : Nat} {v : Value} {xs : List Int} (h : OwnI w B v xs) (hb : Below w.heap.size w w') : OwnI w' B v xs := by
  have hg := gb_of hb (none : Option Nat)
  refine World.ownsRow.kept h hg ?_
  cases hv : v.ownBlock with
  | none => exact Or.inl rfl
  | some k => exact Or.inr (by intro e; cases e)
theorem ints_snoc (xs : List Int) (x : Int) : ints xs ++ [Value.int .i64 x] = ints (xs ++ [x]) := by unfold ints; simp
theorem one_ints (xs : List Int) : ∀ u ∈ ints xs, u.oneCell' = true := by
  intro u hu; unfold ints at hu; obtain ⟨x, _, rfl⟩ := List.mem_map.1 hu; rfl
theorem under_ints : Tryd.prog.underlying 22 = some (.slice 3) := Tryd.underlying22
/-- append(v, src...): v the call's own, src reads as a list. -/
theorem wp_appendI {o : Oper} {a : Act} {K : Act → World → Prop} {Q : Exit → Act → World → Prop} {w : World} (s x : Operand)
    (ho : o.op = .call { callee := .builtin .append, args := #[s, x], argTypes := #[22, 22] })
    (B : Nat) (v : Value) (xs : List Int) (hs : a.eval s = v) (hown : OwnI w B v xs) (u : Value) (ys : List Int) (hx : a.eval x = u) (hr : ReadI w u ys)
    (hlen : xs.length + ys.length ≤ 1099511627776) (hB : B ≤ w.heap.size)
    (h : ∀ v' w', OwnI w' B v' (xs ++ ys) → w.grownBy w' v.ownBlock → K (a.put o.dst v') w') : Oper.wp Tryd.prog o a w K Q := by
  obtain ⟨i, hi, hz, hs1, hb1⟩ := info_parts Tryd.infoInt
  obtain ⟨a', cap, rfl, h1, h2, h3, h4⟩ := hr
  cases a' with
  | none =>
    obtain rfl := h3 rfl
    have e := List.eq_nil_of_length_eq_zero (Nat.le_zero.1 h1)
    subst e
    have hrun := run_append_owned_none (P := Tryd.prog) (w := w) B 22 o.type 3 i 1 under_ints hi v _ _ hown
    unfold Oper.wp
    simp [execOp, ho, resolve, invoke, builtin, hs, hx, hrun, Result.andThen]
    exact h v w (by rw [List.append_nil]; exact hown) (gb_refl _ _)
  | some ad =>
    refine wp_append_own w s x _ ho B 3 i _ 1 8 under_ints hi hz hs1 hb1 (by rfl) (by decide) v _ _ hs hown ad ys.length cap (ints ys) hx (by rw [ints_length]; omega) (fun j u hj => ?_) (one_ints ys) (by unfold maxLen; omega) (by omega) hB (fun v' w' ho' hg' _ => ?_)
    · have hlt : j < ys.length := by
        rcases Nat.lt_or_ge j ys.length with q | q
        · exact q
        · rw [List.getElem?_eq_none (by rw [ints_length]; exact q)] at hj; cases hj
      obtain ⟨b, off, hab, _, h6⟩ := h4 (by omega)
      cases hab
      have e : (ints ys)[j]? = some (.int .i64 (ys.getD j 0)) := by
        unfold ints
        rw [List.getElem?_map, List.getD_eq_getElem?_getD, List.getElem?_eq_getElem hlt]; rfl
      rw [e] at hj; cases hj
      have := h6 j hlt
      rw [Addr.add_lit]; exact this
    · refine h v' w' ?_ hg'
      unfold OwnI
      rw [List.length_append]
      have e : ints (xs ++ ys) = ints xs ++ ints ys := by unfold ints; simp
      rw [e]; exact ho'
theorem appendI {ops : Array Oper} {rest : List Oper} {o : Oper} {a : Act} {Q : Exit → Act → World → Prop} {w : World} (hgd : o.guard = none) (s x : Operand)
    (ho : o.op = .call { callee := .builtin .append, args := #[s, x], argTypes := #[22, 22] })
    (B : Nat) (v : Value) (xs : List Int) (hs : a.eval s = v) (hown : OwnI w B v xs) (u : Value) (ys : List Int) (hx : a.eval x = u) (hr : ReadI w u ys)
    (hlen : xs.length + ys.length ≤ 1099511627776) (hB : B ≤ w.heap.size)
    (h : ∀ v' w', OwnI w' B v' (xs ++ ys) → w.grownBy w' v.ownBlock → wpList Tryd.prog ops Q rest (a.put o.dst v') w') : wpList Tryd.prog ops Q (o :: rest) a w :=
  wpList_plain hgd fun _ hK => wp_appendI s x ho B v xs hs hown u ys hx hr hlen hB fun v' w' h1 h2 => hK _ _ (h v' w' h1 h2)
theorem step_appendI {ops : Array Oper} {o : Oper} {a : Act} {K : Act → World → Prop} {Q : Exit → Act → World → Prop} {E : Prop} {w : World} (hgd : o.guard = none) (s x : Operand)
    (ho : o.op = .call { callee := .builtin .append, args := #[s, x], argTypes := #[22, 22] })
    (B : Nat) (v : Value) (xs : List Int) (hs : a.eval s = v) (hown : OwnI w B v xs) (u : Value) (ys : List Int) (hx : a.eval x = u) (hr : ReadI w u ys)
    (hlen : xs.length + ys.length ≤ 1099511627776) (hB : B ≤ w.heap.size)
    (h : ∀ v' w', OwnI w' B v' (xs ++ ys) → w.grownBy w' v.ownBlock → K (a.put o.dst v') w') :
    if Region.wanted o (yielded ops a.tmps) = true then Oper.wp Tryd.prog o a w K Q else E := by
  rw [if_pos (by simp [Region.wanted, hgd])]
  exact wp_appendI s x ho B v xs hs hown u ys hx hr hlen hB h
/-- What one element is, in the block that 'append(v, x)' lays for it. -/
theorem read_one (w : World) (x : Int) : ReadI (w.alloc (.cells #[.int .i64 x] 3)) (.slice (some ⟨w.heap.size, 0, none⟩) 1 1) [x] :=
  readI_mk (xs := [x]) (Nat.le_refl _) (by unfold maxLen; decide) (by simp) (fun i hi => by
    have e : i = 0 := by simp at hi; omega
    subst e; rw [World.cell?_alloc_new]; rfl)
/-- Whatever it is: a slice of so many. -/
theorem readI_len {w : World} {u : Value} {xs : List Int} (h : ReadI w u xs) : ∃ a cap, u = .slice a xs.length cap := by
  obtain ⟨a, cap, rfl, _⟩ := h
  exact ⟨a, cap, rfl⟩
theorem readI_pos {w : World} {u : Value} {xs : List Int} (h : ReadI w u xs) (hn : 0 < xs.length) : ∃ b o cap, u = .slice (some ⟨b, o, none⟩) xs.length cap ∧ xs.length ≤ cap ∧ cap ≤ maxLen ∧ b < w.heap.size ∧ ∀ i, i < xs.length → w.cell? ⟨b, o + i, none⟩ = some (.int .i64 (xs.getD i 0)) := by
  obtain ⟨a, cap, rfl, h1, h2, h3, h4⟩ := h
  obtain ⟨b, o, rfl, h5, h6⟩ := h4 hn
  exact ⟨b, o, cap, rfl, h1, h2, h5, h6⟩
/-- A slice of ints that came in. -/
theorem readI_of {w : World} {x : Addr} {len cap : Nat} {zs : List Int} (hl : len ≤ cap) (hm : cap ≤ maxLen) (hz : zs.length = cap) (hc : ∀ i, i < zs.length → w.cell? (x.add i) = some (.int .i64 (zs.getD i 0))) : ReadI w (.slice (some x) len cap) (zs.take len) := by
  have e : (zs.take len).length = len := by simp; omega
  refine ⟨some x, cap, by rw [e], by omega, hm, fun h => (by cases h), fun hp => ?_⟩
  rw [e] at hp
  obtain ⟨b, o, spot⟩ := x
  have h0 := hc 0 (by omega)
  have hspot : spot = none := by simpa [Addr.add] using World.cell?_spot h0
  subst hspot
  refine ⟨b, o, rfl, ?_, fun i hi => ?_⟩
  · have := World.block_lt_of_cell? w _ h0
    simpa [Addr.add] using this
  · rw [e] at hi
    have := hc i (by omega)
    rw [Addr.add_lit] at this
    rw [this]
    simp only [List.getD_eq_getElem?_getD, List.getElem?_take_of_lt hi]
/-- The first ones of a list, as 's[:n]' makes them. -/
theorem readI_take {w : World} {a : Option Addr} {len cap n : Nat} {xs : List Int} (h : ReadI w (.slice a len cap) xs) (hn : n ≤ xs.length) : ReadI w (.slice a n cap) (xs.take n) := by
  obtain ⟨a', cap', e, h1, h2, h3, h4⟩ := h
  cases e
  have e : (xs.take n).length = n := by simp; omega
  refine ⟨a, cap, by rw [e], by omega, h2, h3, fun hp => ?_⟩
  rw [e] at hp
  obtain ⟨b, o, rfl, h5, h6⟩ := h4 (by omega)
  refine ⟨b, o, rfl, h5, fun i hi => ?_⟩
  rw [e] at hi
  rw [h6 i (by omega)]
  simp only [List.getD_eq_getElem?_getD, List.getElem?_take_of_lt hi]
theorem ownI_form {w : World} {B : Nat} {v : Value} {xs : List Int} (h : OwnI w B v xs) (hn : 0 < xs.length) : ∃ g cap, v = .slice (some ⟨g, 0, none⟩) xs.length cap ∧ B ≤ g ∧ g < w.heap.size ∧ xs.length ≤ cap ∧ cap ≤ maxLen ∧ (∀ i, i < xs.length → w.cell? ⟨g, i, none⟩ = some (.int .i64 (xs.getD i 0))) ∧ ∀ i, w.frozen? ⟨g, i, none⟩ = false := by
  have hr := ownI_read h
  have hl := ownI_lt h
  obtain ⟨h1, h2⟩ := h
  rcases h2 with ⟨_, h3⟩ | ⟨g, cap, cur, rfl, h3, h4, h5, h6, h7, h8⟩
  · omega
  · obtain ⟨b, o, cap', hv, r1, r2, r3, r4⟩ := readI_pos hr hn
    cases hv
    exact ⟨g, cap, rfl, h3, (hl g rfl).2, h5, h6, fun i hi => by have := r4 i hi; rwa [Nat.zero_add] at this, fun i => by simp [World.frozen?, h4]⟩
theorem own_empty {w : World} {B : Nat} (hB : B ≤ w.heap.size) : OwnI (w.alloc (.cells #[] 3)) B (.slice (some ⟨w.heap.size, 0, none⟩) 0 0) [] :=
  ⟨rfl, Or.inr ⟨w.heap.size, 0, #[], rfl, hB, (MapKept.heap_alloc w _).1, Nat.le_refl _, Nat.zero_le _, rfl, rfl⟩⟩
theorem readI_drew {w : World} {v : Value} {xs : List Int} (h : ReadI w v xs) : ReadI w.drew v xs := h
theorem ownI_drew {w : World} {B : Nat} {v : Value} {xs : List Int} (h : OwnI w B v xs) : OwnI w.drew B v xs := h
theorem ownI_alloc {w : World} {B : Nat} {v : Value} {xs : List Int} (h : OwnI w B v xs) (o : Obj) : OwnI (w.alloc o) B v xs := World.ownsRow.alloc h o
/-- Old memory stays when what is the call's own is appended to. -/
theorem b_own {W w w' : World} {v : Value} {xs : List Int} (h : Below W.heap.size W w) (ho : OwnI w W.heap.size v xs) (hg : w.grownBy w' v.ownBlock) : Below W.heap.size W w' :=
  h.grown hg h.size (fun k e => (ownI_lt ho k e).1)
end
section
open Go.RowKit
set_option linter.unusedVariables false
set_option linter.unusedSimpArgs false
def intE : Elt Int where
  cells := fun x => [.int .i64 x]
  size := 1
  pos := by decide
  len := fun _ => rfl
  one := fun r u hu => by
    simp only [List.mem_cons, List.not_mem_nil, or_false] at hu
    rw [hu]; rfl
theorem readI_R {w : World} {v : Value} {xs : List Int} (h : ReadI w v xs) : ReadR intE w v xs := by
  obtain ⟨a, cap, rfl, h1, h2, h3, h4⟩ := h
  refine ⟨a, cap, rfl, h1, h2, h3, fun hp => ?_⟩
  obtain ⟨b, o, rfl, h5, h6⟩ := h4 hp
  refine ⟨b, o, rfl, h5, fun k hk j hj => ?_⟩
  have hj0 : j = 0 := by have : intE.size = 1 := rfl; omega
  subst hj0
  have := h6 k hk
  rw [show k * intE.size + 0 = k by show k * 1 + 0 = k; omega, this, List.getD_eq_getElem?_getD, List.getElem?_eq_getElem hk]; rfl
theorem readR_I {w : World} {v : Value} {xs : List Int} (h : ReadR intE w v xs) : ReadI w v xs := by
  obtain ⟨a, cap, rfl, h1, h2, h3, h4⟩ := h
  refine ⟨a, cap, rfl, h1, h2, h3, fun hp => ?_⟩
  obtain ⟨b, o, rfl, h5, h6⟩ := h4 hp
  refine ⟨b, o, rfl, h5, fun k hk => ?_⟩
  have := h6 k hk 0 (by decide)
  rw [show k * intE.size + 0 = k by show k * 1 + 0 = k; omega] at this
  rw [this, List.getD_eq_getElem?_getD, List.getElem?_eq_getElem hk]; rfl
theorem rowInt : IsRow Tryd.prog 22 3 1 8 (.int .i64 0) := ⟨Tryd.underlying22, by kernel_rfl, by rfl⟩
/-- An instruction. -/
structure In4 where
  op : Int
  x : Int
  a : Int
  b : Int
def inE : Elt In4 where
  cells := fun i => [.int .i64 i.op, .int .u64 i.x, .int .i64 i.a, .int .i64 i.b]
  size := 4
  pos := by decide
  len := fun _ => rfl
  one := fun r u hu => by
    simp only [List.mem_cons, List.not_mem_nil, or_false] at hu
    rcases hu with rfl | rfl | rfl | rfl <;> rfl
def aggIn (i : In4) : Value := .agg #[.int .i64 i.op, .int .u64 i.x, .int .i64 i.a, .int .i64 i.b]
/-- A slice, as three. -/
structure Sl where
  a : Option Addr
  n : Nat
  c : Nat
def Sl.v (s : Sl) : Value := .slice s.a s.n s.c
theorem sl_of {w : World} {v : Value} {α : Type} {c : Elt α} {L : List α} (h : ReadR c w v L) : ∃ s : Sl, v = s.v ∧ s.n = L.length := by
  obtain ⟨a, cap, rfl, _⟩ := h; exact ⟨⟨a, _, cap⟩, rfl, rfl⟩
/-- A function's cells; a function. -/
structure FnV where
  p : Sl
  l : Sl
  r : Int
  c : Sl
structure FnM where
  ps : List Int
  ls : List Int
  r : Int
  code : List In4
def fnE : Elt FnV where
  cells := fun f => [f.p.v, f.l.v, .int .i64 f.r, f.c.v]
  size := 4
  pos := by decide
  len := fun _ => rfl
  one := fun f u hu => by
    simp only [List.mem_cons, List.not_mem_nil, or_false] at hu
    rcases hu with rfl | rfl | rfl | rfl <;> rfl
def aggF (f : FnV) : Value := .agg #[f.p.v, f.l.v, .int .i64 f.r, f.c.v]
structure DeepF (w : World) (v : FnV) (f : FnM) : Prop where
  p : ReadI w v.p.v f.ps
  l : ReadI w v.l.v f.ls
  r : v.r = f.r
  c : ReadR inE w v.c.v f.code
theorem deepF_below {w w' : World} {v : FnV} {f : FnM} (h : DeepF w v f) (hb : Below w.heap.size w w') : DeepF w' v f := ⟨readI_below h.p hb, readI_below h.l hb, h.r, readR_below h.c hb⟩
/-- One by one. -/
def AllF (w : World) : List FnV → List FnM → Prop
  | [], [] => True
  | v :: vs, f :: fs => DeepF w v f ∧ AllF w vs fs
  | _, _ => False
theorem allF_below {w w' : World} (hb : Below w.heap.size w w') : ∀ {vs : List FnV} {fs : List FnM}, AllF w vs fs → AllF w' vs fs
  | [], [], _ => trivial
  | v :: vs, f :: fs, h => ⟨deepF_below h.1 hb, allF_below hb h.2⟩
  | [], _ :: _, h => h.elim
  | _ :: _, [], h => h.elim
theorem allF_len {w : World} : ∀ {vs : List FnV} {fs : List FnM}, AllF w vs fs → vs.length = fs.length
  | [], [], _ => rfl
  | v :: vs, f :: fs, h => by simp [allF_len h.2]
  | [], _ :: _, h => h.elim
  | _ :: _, [], h => h.elim
theorem allF_at {w : World} : ∀ {vs : List FnV} {fs : List FnM}, AllF w vs fs → ∀ k (h : k < vs.length) (h' : k < fs.length), DeepF w vs[k] fs[k]
  | v :: vs, f :: fs, h, 0, _, _ => h.1
  | v :: vs, f :: fs, h, k + 1, hk, hk' => allF_at h.2 k (by simpa using hk) (by simpa using hk')
theorem allF_snoc {w : World} {v : FnV} {f : FnM} (hd : DeepF w v f) : ∀ {vs : List FnV} {fs : List FnM}, AllF w vs fs → AllF w (vs ++ [v]) (fs ++ [f])
  | [], [], _ => ⟨hd, trivial⟩
  | v :: vs, f :: fs, h => ⟨h.1, allF_snoc hd h.2⟩
  | [], _ :: _, h => h.elim
  | _ :: _, [], h => h.elim
theorem allF_of {w : World} : ∀ {vs : List FnV} (_ : ∀ v ∈ vs, ∃ f, DeepF w v f), ∃ fs, AllF w vs fs
  | [], _ => ⟨[], trivial⟩
  | v :: vs, h => by
    obtain ⟨f, hf⟩ := h v (List.mem_cons_self ..)
    obtain ⟨fs, hfs⟩ := allF_of (vs := vs) (fun u hu => h u (List.mem_cons_of_mem _ hu))
    exact ⟨f :: fs, hf, hfs⟩
def ReadFs (w : World) (v : Value) (fs : List FnM) : Prop := ∃ L, ReadR fnE w v L ∧ AllF w L fs
theorem readFs_below {w w' : World} {v : Value} {fs : List FnM} (h : ReadFs w v fs) (hb : Below w.heap.size w w') : ReadFs w' v fs := by
  obtain ⟨L, h1, h2⟩ := h
  exact ⟨L, readR_below h1 hb, allF_below hb h2⟩
/-- A program's cells; a program. -/
structure PrV where
  u : Bool
  g : Sl
  m : Int
  f : Sl
structure PrM where
  u : Bool
  gl : List Int
  m : Int
  fs : List FnM
def aggP (p : PrV) : Value := .agg #[.bool p.u, p.g.v, .int .i64 p.m, p.f.v]
structure ReadP (w : World) (v : PrV) (p : PrM) : Prop where
  u : v.u = p.u
  g : ReadI w v.g.v p.gl
  m : v.m = p.m
  f : ReadFs w v.f.v p.fs
theorem readP_below {w w' : World} {v : PrV} {p : PrM} (h : ReadP w v p) (hb : Below w.heap.size w w') : ReadP w' v p := ⟨h.u, readI_below h.g hb, h.m, readFs_below h.f hb⟩
/-- What 'Cut' leaves. -/
def cutF (f : FnM) : FnM := ⟨f.ps.take 10, f.ls.take 10, f.r, f.code.take 100⟩
def cutP (p : PrM) : PrM := ⟨p.u, p.gl.take 10, p.m, (p.fs.take 17).map cutF⟩
structure SmallF (f : FnM) : Prop where
  p : f.ps.length ≤ 10
  l : f.ls.length ≤ 10
  c : f.code.length ≤ 100
structure SmallP (p : PrM) : Prop where
  g : p.gl.length ≤ 10
  f : p.fs.length ≤ 17
  a : ∀ f ∈ p.fs, SmallF f
theorem small_cut (p : PrM) : SmallP (cutP p) := by
  refine ⟨by simp [cutP]; omega, by simp [cutP]; omega, fun f hf => ?_⟩
  obtain ⟨g, _, rfl⟩ := List.mem_map.1 hf
  exact ⟨by simp [cutF]; omega, by simp [cutF]; omega, by simp [cutF]; omega⟩
end
end Go.Proofs.YtedmjlhgpdeafaaDoor
