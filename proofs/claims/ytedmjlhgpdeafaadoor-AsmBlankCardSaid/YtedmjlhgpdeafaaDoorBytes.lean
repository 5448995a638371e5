/- Slices of bytes: read as lists, or owned by the call. No conditions beside those stated. -/
import Derived.Test.YtedmjlhgpdeafaaDoorProg
import Derived.Test.YtedmjlhgpdeafaaDoorHeap
namespace Go.Proofs.YtedmjlhgpdeafaaDoor
open Go.RowKit
set_option linter.unusedVariables false
set_option linter.unusedSimpArgs false
theorem Tryd.infoByte : (Tryd.prog.info? 5).map (fun i => (i.zero, i.size, i.bytes)) = some (some (.int .u8 0), 1, 1) := by kernel_rfl
def byts (xs : List Int) : List Value := xs.map (Value.int .u8)
theorem byts_length (xs : List Int) : (byts xs).length = xs.length := by unfold byts; simp
/-- A slice value that the call itself has made, from block B on. -/
def OwnB (w : World) (B : Nat) (v : Value) (xs : List Int) : Prop := w.ownsRow B 5 1 v xs.length (byts xs)
def RetOwnB (w : World) (xs : List Int) (e : Ending) (w' : World) : Prop := ∃ v, e = .returned v ∧ OwnB w' w.heap.size v xs ∧ Below w.heap.size w w'
/-- A slice value that reads as a list. -/
def ReadB (w : World) (v : Value) (xs : List Int) : Prop :=
  ∃ a cap, v = .slice a xs.length cap ∧ xs.length ≤ cap ∧ cap ≤ maxLen ∧ (a = none → cap = 0) ∧ (0 < xs.length → ∃ b o, a = some ⟨b, o, none⟩ ∧ b < w.heap.size ∧ ∀ i, i < xs.length → w.cell? ⟨b, o + i, none⟩ = some (.int .u8 (xs.getD i 0)))
theorem readB_mk {w : World} {b o cap : Nat} {xs : List Int} (h1 : xs.length ≤ cap) (h2 : cap ≤ maxLen) (h3 : b < w.heap.size) (h4 : ∀ i, i < xs.length → w.cell? ⟨b, o + i, none⟩ = some (.int .u8 (xs.getD i 0))) : ReadB w (.slice (some ⟨b, o, none⟩) xs.length cap) xs :=
  ⟨_, cap, rfl, h1, h2, fun h => (by cases h), fun _ => ⟨b, o, rfl, h3, h4⟩⟩
theorem readB_nil (w : World) : ReadB w (.slice none 0 0) [] := ⟨none, 0, rfl, Nat.le_refl _, Nat.zero_le _, fun _ => rfl, fun h => by simp at h⟩
theorem ownB_nil (w : World) (B : Nat) : OwnB w B (.slice none 0 0) [] := World.ownsRow_nil _ _ _ _
theorem ownB_read {w : World} {B : Nat} {v : Value} {xs : List Int} (h : OwnB w B v xs) : ReadB w v xs := by
  obtain ⟨h1, h2⟩ := h
  rcases h2 with ⟨rfl, h3⟩ | ⟨g, cap, cur, rfl, h3, h4, h5, h6, h7, h8⟩
  · have e := List.eq_nil_of_length_eq_zero h3
    subst e; exact readB_nil w
  · refine readB_mk h5 h6 ?_ (fun i hi => ?_)
    · rcases Nat.lt_or_ge g w.heap.size with h | h
      · exact h
      · rw [Array.getElem?_eq_none h] at h4; cases h4
    · have e : cur[i]? = some (.int .u8 (xs.getD i 0)) := by
        have e2 : (cur.toList.take (xs.length * 1))[i]? = (byts xs)[i]? := by rw [h8]
        rw [List.getElem?_take_of_lt (by omega), Array.getElem?_toList] at e2
        rw [e2]; unfold byts
        rw [List.getElem?_map, List.getD_eq_getElem?_getD, List.getElem?_eq_getElem hi]; rfl
      simp [World.cell?, h4, e]
theorem readB_kept {w w' : World} {v : Value} {xs : List Int} (h : ReadB w v xs) (hk : ∀ b, v.ownBlock = some b → b < w.heap.size → w'.heap[b]? = w.heap[b]?) (hs : w.heap.size ≤ w'.heap.size) : ReadB w' v xs := by
  obtain ⟨a, cap, rfl, h1, h2, h3, h4⟩ := h
  refine ⟨a, cap, rfl, h1, h2, h3, fun hp => ?_⟩
  obtain ⟨b, o, rfl, h5, h6⟩ := h4 hp
  exact ⟨b, o, rfl, by omega, fun i hi => (World.cell?_of_block (w := w) (hk b rfl h5)).trans (h6 i hi)⟩
theorem readB_below {w w' : World} {v : Value} {xs : List Int} (h : ReadB w v xs) (hb : Below w.heap.size w w') : ReadB w' v xs :=
  readB_kept h (fun b _ hlt => hb.block b hlt) hb.size
theorem ownB_mono {w : World} {B B' : Nat} {v : Value} {xs : List Int} (h : OwnB w B v xs) (hB : B' ≤ B) : OwnB w B' v xs := by
  obtain ⟨h1, h2⟩ := h
  rcases h2 with h2 | ⟨g, cap, cur, rfl, h3, h4⟩
  · exact ⟨h1, Or.inl h2⟩
  · exact ⟨h1, Or.inr ⟨g, cap, cur, rfl, Nat.le_trans hB h3, h4⟩⟩
theorem ownB_lt {w : World} {B : Nat} {v : Value} {xs : List Int} (h : OwnB w B v xs) : ∀ k, v.ownBlock = some k → B ≤ k ∧ k < w.heap.size := World.ownsRow.lt h
theorem ownB_kept {w w' : World} {B : Nat} {v : Value} {xs : List Int} {r : Option Nat} (h : OwnB w B v xs) (hg : w.grownBy w' r) (hne : v.ownBlock = none ∨ v.ownBlock ≠ r) : OwnB w' B v xs := World.ownsRow.kept h hg hne
theorem ownB_below {w w' : World} {B : Nat} {v : Value} {xs : List Int} (h : OwnB w B v xs) (hb : Below w.heap.size w w') : OwnB w' B v xs := by
  have hg := gb_of hb (none : Option Nat)
  refine World.ownsRow.kept h hg ?_
  cases hv : v.ownBlock with
  | none => exact Or.inl rfl
  | some k => exact Or.inr (by intro e; cases e)
theorem byts_snoc (xs : List Int) (x : Int) : byts xs ++ [Value.int .u8 x] = byts (xs ++ [x]) := by unfold byts; simp
theorem one_byts (xs : List Int) : ∀ u ∈ byts xs, u.oneCell' = true := by
  intro u hu; unfold byts at hu; obtain ⟨x, _, rfl⟩ := List.mem_map.1 hu; rfl
theorem under_byts : Tryd.prog.underlying 51 = some (.slice 5) := Tryd.underlying51
/-- append(v, src...): v the call's own, src reads as a list. -/
theorem wp_appendB {o : Oper} {a : Act} {K : Act → World → Prop} {Q : Exit → Act → World → Prop} {w : World} (s x : Operand)
    (ho : o.op = .call { callee := .builtin .append, args := #[s, x], argTypes := #[51, 51] })
    (B : Nat) (v : Value) (xs : List Int) (hs : a.eval s = v) (hown : OwnB w B v xs) (u : Value) (ys : List Int) (hx : a.eval x = u) (hr : ReadB w u ys)
    (hlen : xs.length + ys.length ≤ 1099511627776) (hB : B ≤ w.heap.size)
    (h : ∀ v' w', OwnB w' B v' (xs ++ ys) → w.grownBy w' v.ownBlock → K (a.put o.dst v') w') : Oper.wp Tryd.prog o a w K Q := by
  obtain ⟨i, hi, hz, hs1, hb1⟩ := info_parts Tryd.infoByte
  obtain ⟨a', cap, rfl, h1, h2, h3, h4⟩ := hr
  cases a' with
  | none =>
    obtain rfl := h3 rfl
    have e := List.eq_nil_of_length_eq_zero (Nat.le_zero.1 h1)
    subst e
    have hrun := run_append_owned_none (P := Tryd.prog) (w := w) B 51 o.type 5 i 1 under_byts hi v _ _ hown
    unfold Oper.wp
    simp [execOp, ho, resolve, invoke, builtin, hs, hx, hrun, Result.andThen]
    exact h v w (by rw [List.append_nil]; exact hown) (gb_refl _ _)
  | some ad =>
    refine wp_append_own w s x _ ho B 5 i _ 1 1 under_byts hi hz hs1 hb1 (by rfl) (by decide) v _ _ hs hown ad ys.length cap (byts ys) hx (by rw [byts_length]; omega) (fun j u hj => ?_) (one_byts ys) (by unfold maxLen; omega) (by omega) hB (fun v' w' ho' hg' _ => ?_)
    · have hlt : j < ys.length := by
        rcases Nat.lt_or_ge j ys.length with q | q
        · exact q
        · rw [List.getElem?_eq_none (by rw [byts_length]; exact q)] at hj; cases hj
      obtain ⟨b, off, hab, _, h6⟩ := h4 (by omega)
      cases hab
      have e : (byts ys)[j]? = some (.int .u8 (ys.getD j 0)) := by
        unfold byts
        rw [List.getElem?_map, List.getD_eq_getElem?_getD, List.getElem?_eq_getElem hlt]; rfl
      rw [e] at hj; cases hj
      have := h6 j hlt
      rw [Addr.add_lit]; exact this
    · refine h v' w' ?_ hg'
      unfold OwnB
      rw [List.length_append]
      have e : byts (xs ++ ys) = byts xs ++ byts ys := by unfold byts; simp
      rw [e]; exact ho'
theorem appendB {ops : Array Oper} {rest : List Oper} {o : Oper} {a : Act} {Q : Exit → Act → World → Prop} {w : World} (hgd : o.guard = none) (s x : Operand)
    (ho : o.op = .call { callee := .builtin .append, args := #[s, x], argTypes := #[51, 51] })
    (B : Nat) (v : Value) (xs : List Int) (hs : a.eval s = v) (hown : OwnB w B v xs) (u : Value) (ys : List Int) (hx : a.eval x = u) (hr : ReadB w u ys)
    (hlen : xs.length + ys.length ≤ 1099511627776) (hB : B ≤ w.heap.size)
    (h : ∀ v' w', OwnB w' B v' (xs ++ ys) → w.grownBy w' v.ownBlock → wpList Tryd.prog ops Q rest (a.put o.dst v') w') : wpList Tryd.prog ops Q (o :: rest) a w :=
  wpList_plain hgd fun _ hK => wp_appendB s x ho B v xs hs hown u ys hx hr hlen hB fun v' w' h1 h2 => hK _ _ (h v' w' h1 h2)
theorem step_appendB {ops : Array Oper} {o : Oper} {a : Act} {K : Act → World → Prop} {Q : Exit → Act → World → Prop} {E : Prop} {w : World} (hgd : o.guard = none) (s x : Operand)
    (ho : o.op = .call { callee := .builtin .append, args := #[s, x], argTypes := #[51, 51] })
    (B : Nat) (v : Value) (xs : List Int) (hs : a.eval s = v) (hown : OwnB w B v xs) (u : Value) (ys : List Int) (hx : a.eval x = u) (hr : ReadB w u ys)
    (hlen : xs.length + ys.length ≤ 1099511627776) (hB : B ≤ w.heap.size)
    (h : ∀ v' w', OwnB w' B v' (xs ++ ys) → w.grownBy w' v.ownBlock → K (a.put o.dst v') w') :
    if Region.wanted o (yielded ops a.tmps) = true then Oper.wp Tryd.prog o a w K Q else E := by
  rw [if_pos (by simp [Region.wanted, hgd])]
  exact wp_appendB s x ho B v xs hs hown u ys hx hr hlen hB h
/-- What one element is, in the block that 'append(v, x)' lays for it. -/
theorem read_oneB (w : World) (x : Int) : ReadB (w.alloc (.cells #[.int .u8 x] 5)) (.slice (some ⟨w.heap.size, 0, none⟩) 1 1) [x] :=
  readB_mk (xs := [x]) (Nat.le_refl _) (by unfold maxLen; decide) (by simp) (fun i hi => by
    have e : i = 0 := by simp at hi; omega
    subst e; rw [World.cell?_alloc_new]; rfl)
/-- Whatever it is: a slice of so many. -/
theorem readB_len {w : World} {u : Value} {xs : List Int} (h : ReadB w u xs) : ∃ a cap, u = .slice a xs.length cap := by
  obtain ⟨a, cap, rfl, _⟩ := h
  exact ⟨a, cap, rfl⟩
theorem readB_pos {w : World} {u : Value} {xs : List Int} (h : ReadB w u xs) (hn : 0 < xs.length) : ∃ b o cap, u = .slice (some ⟨b, o, none⟩) xs.length cap ∧ xs.length ≤ cap ∧ cap ≤ maxLen ∧ b < w.heap.size ∧ ∀ i, i < xs.length → w.cell? ⟨b, o + i, none⟩ = some (.int .u8 (xs.getD i 0)) := by
  obtain ⟨a, cap, rfl, h1, h2, h3, h4⟩ := h
  obtain ⟨b, o, rfl, h5, h6⟩ := h4 hn
  exact ⟨b, o, cap, rfl, h1, h2, h5, h6⟩
/-- A slice of byts that came in. -/
theorem readB_of {w : World} {x : Addr} {len cap : Nat} {zs : List Int} (hl : len ≤ cap) (hm : cap ≤ maxLen) (hz : zs.length = cap) (hc : ∀ i, i < zs.length → w.cell? (x.add i) = some (.int .u8 (zs.getD i 0))) : ReadB w (.slice (some x) len cap) (zs.take len) := by
  have e : (zs.take len).length = len := by simp; omega
  refine ⟨some x, cap, by rw [e], by omega, hm, fun h => (by cases h), fun hp => ?_⟩
  rw [e] at hp
  obtain ⟨b, o, spot⟩ := x
  have h0 := hc 0 (by omega)
  have hspot : spot = none := by simpa [Addr.add] using World.cell?_spot h0
  subst hspot
  refine ⟨b, o, rfl, ?_, fun i hi => ?_⟩
  · have := World.block_lt_of_cell? w _ h0
    simpa [Addr.add] using this
  · rw [e] at hi
    have := hc i (by omega)
    rw [Addr.add_lit] at this
    rw [this]
    simp only [List.getD_eq_getElem?_getD, List.getElem?_take_of_lt hi]
/-- The first ones of a list, as 's[:n]' makes them. -/
theorem readB_take {w : World} {a : Option Addr} {len cap n : Nat} {xs : List Int} (h : ReadB w (.slice a len cap) xs) (hn : n ≤ xs.length) : ReadB w (.slice a n cap) (xs.take n) := by
  obtain ⟨a', cap', e, h1, h2, h3, h4⟩ := h
  cases e
  have e : (xs.take n).length = n := by simp; omega
  refine ⟨a, cap, by rw [e], by omega, h2, h3, fun hp => ?_⟩
  rw [e] at hp
  obtain ⟨b, o, rfl, h5, h6⟩ := h4 (by omega)
  refine ⟨b, o, rfl, h5, fun i hi => ?_⟩
  rw [e] at hi
  rw [h6 i (by omega)]
  simp only [List.getD_eq_getElem?_getD, List.getElem?_take_of_lt hi]
theorem ownB_form {w : World} {B : Nat} {v : Value} {xs : List Int} (h : OwnB w B v xs) (hn : 0 < xs.length) : ∃ g cap, v = .slice (some ⟨g, 0, none⟩) xs.length cap ∧ B ≤ g ∧ g < w.heap.size ∧ xs.length ≤ cap ∧ cap ≤ maxLen ∧ (∀ i, i < xs.length → w.cell? ⟨g, i, none⟩ = some (.int .u8 (xs.getD i 0))) ∧ ∀ i, w.frozen? ⟨g, i, none⟩ = false := by
  have hr := ownB_read h
  have hl := ownB_lt h
  obtain ⟨h1, h2⟩ := h
  rcases h2 with ⟨_, h3⟩ | ⟨g, cap, cur, rfl, h3, h4, h5, h6, h7, h8⟩
  · omega
  · obtain ⟨b, o, cap', hv, r1, r2, r3, r4⟩ := readB_pos hr hn
    cases hv
    exact ⟨g, cap, rfl, h3, (hl g rfl).2, h5, h6, fun i hi => by have := r4 i hi; rwa [Nat.zero_add] at this, fun i => by simp [World.frozen?, h4]⟩
theorem own_emptyB {w : World} {B : Nat} (hB : B ≤ w.heap.size) : OwnB (w.alloc (.cells #[] 5)) B (.slice (some ⟨w.heap.size, 0, none⟩) 0 0) [] :=
  ⟨rfl, Or.inr ⟨w.heap.size, 0, #[], rfl, hB, (MapKept.heap_alloc w _).1, Nat.le_refl _, Nat.zero_le _, rfl, rfl⟩⟩
theorem readB_drew {w : World} {v : Value} {xs : List Int} (h : ReadB w v xs) : ReadB w.drew v xs := h
theorem ownB_drew {w : World} {B : Nat} {v : Value} {xs : List Int} (h : OwnB w B v xs) : OwnB w.drew B v xs := h
theorem ownB_alloc {w : World} {B : Nat} {v : Value} {xs : List Int} (h : OwnB w B v xs) (o : Obj) : OwnB (w.alloc o) B v xs := World.ownsRow.alloc h o
/-- Old memory stays when what is the call's own is appended to. -/
theorem b_ownB {W w w' : World} {v : Value} {xs : List Int} (h : Below W.heap.size W w) (ho : OwnB w W.heap.size v xs) (hg : w.grownBy w' v.ownBlock) : Below W.heap.size W w' :=
  h.grown hg h.size (fun k e => (ownB_lt ho k e).1)
end Go.Proofs.YtedmjlhgpdeafaaDoor
