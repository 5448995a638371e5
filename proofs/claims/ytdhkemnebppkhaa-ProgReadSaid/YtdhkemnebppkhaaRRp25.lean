/- Layer 25: the document's Read. Conditions: the bytes read as such, and are bytes, not too many. -/
import Derived.Test.YtdhkemnebppkhaaRRf25
namespace Go.Proofs.Ytdhkemnebppkhaa
open Go.RowKit
set_option linter.unusedVariables false
set_option linter.unusedSimpArgs false
structure PQ (w wr : World) (x : Nat) (u : Bool) (g : Sl) (m : Int) (f : Sl) (gl : List Int) (fs : List FnM) : Prop where
  b : Blk wr x [.bool u, .slice g.a g.n g.c, .int .i64 m, .slice f.a f.n f.c]
  t : tyB wr x = some RPROQ
  bl : Below w.heap.size w wr
  rb : Blk wr w.heap.size [.bool false, .slice none 0 0, .int .i64 0, .slice none 0 0]
  rt : tyB wr w.heap.size = some RPROQ
  xw : w.heap.size < x
  rg : ReadI wr (.slice g.a g.n g.c) gl
  sg : slOk wr INTT g.a g.n
  of : ∃ L, OwnR fnE RFUNQ wr (x + 1) (.slice f.a f.n f.c) L ∧ AllT2 wr L fs
theorem pq_below {w wr w' : World} {x : Nat} {u : Bool} {g : Sl} {m : Int} {f : Sl} {gl : List Int} {fs : List FnM} (h : PQ w wr x u g m f gl fs) (hb : Below wr.heap.size wr w') : PQ w w' x u g m f gl fs := by
  have K := keepQ_below hb
  obtain ⟨L, h1, h2⟩ := h.of
  exact ⟨blk_below h.b hb, tyB_call h.t hb, b_call h.bl hb, blk_below h.rb hb, tyB_call h.rt hb, h.xw, readI_below h.rg hb, slOk_keep h.sg (keepE_ty K.1), L, ownR_below h1 hb, allT2_keep K h2⟩
theorem pq_set {w wr : World} {x : Nat} {u : Bool} {g : Sl} {m : Int} {f : Sl} {gl : List Int} {fs : List FnM} (h : PQ w wr x u g m f gl fs) (i : Nat) (v : Value) : KeepQ wr (wr.setCell ⟨x, i, none⟩ v) ∧ tyB (wr.setCell ⟨x, i, none⟩ v) x = some RPROQ ∧ Below w.heap.size w (wr.setCell ⟨x, i, none⟩ v) ∧ Blk (wr.setCell ⟨x, i, none⟩ v) w.heap.size [.bool false, .slice none 0 0, .int .i64 0, .slice none 0 0] ∧ tyB (wr.setCell ⟨x, i, none⟩ v) w.heap.size = some RPROQ ∧ ∃ L, OwnR fnE RFUNQ (wr.setCell ⟨x, i, none⟩ v) (x + 1) (.slice f.a f.n f.c) L ∧ AllT2 (wr.setCell ⟨x, i, none⟩ v) L fs := by
  have gg := gb_set (gb_refl wr (some x)) i none v
  have K : KeepQ wr (wr.setCell ⟨x, i, none⟩ v) := keepQ_grown gg (fun j e => by injection e with e; subst e; exact ⟨RPROQ, h.t, by decide, by decide⟩)
  obtain ⟨L, h1, h2⟩ := h.of
  refine ⟨K, by rw [tyB_set]; exact h.t, b_set h.bl (by have := h.xw; simp only; omega) _, blk_other h.rb (by have := h.xw; simp only; omega) _, by rw [tyB_set]; exact h.rt, L, ownR_kept h1 gg ?_, allT2_keep K h2⟩
  cases hv : (Value.slice f.a f.n f.c).ownBlock with
  | none => exact Or.inl rfl
  | some j => exact Or.inr (by intro e; injection e with e; have := (ownR_lt h1 j hv).1; omega)
theorem pq_set0 {w wr : World} {x : Nat} {u : Bool} {g : Sl} {m : Int} {f : Sl} {gl : List Int} {fs : List FnM} (h : PQ w wr x u g m f gl fs) (z : Bool) : PQ w (wr.setCell ⟨x, 0, none⟩ (.bool z)) x z g m f gl fs := by
  obtain ⟨K, k1, k2, k3, k4, k5⟩ := pq_set h 0 (.bool z)
  exact ⟨blk_set h.b 0 _, k1, k2, k3, k4, h.xw, readI_keepQ K h.sg h.rg, slOk_keep h.sg (keepE_ty K.1), k5⟩
theorem pq_set1 {w wr : World} {x : Nat} {u : Bool} {g : Sl} {m : Int} {f : Sl} {gl : List Int} {fs : List FnM} (h : PQ w wr x u g m f gl fs) {q : Sl} {qs : List Int} (hr : ReadI wr (.slice q.a q.n q.c) qs) (hs : slOk wr INTT q.a q.n) : PQ w (wr.setCell ⟨x, 1, none⟩ (.slice q.a q.n q.c)) x u q m f qs fs := by
  obtain ⟨K, k1, k2, k3, k4, k5⟩ := pq_set h 1 (.slice q.a q.n q.c)
  exact ⟨blk_set h.b 1 _, k1, k2, k3, k4, h.xw, readI_keepQ K hs hr, slOk_keep hs (keepE_ty K.1), k5⟩
theorem pq_set2 {w wr : World} {x : Nat} {u : Bool} {g : Sl} {m : Int} {f : Sl} {gl : List Int} {fs : List FnM} (h : PQ w wr x u g m f gl fs) (z : Int) : PQ w (wr.setCell ⟨x, 2, none⟩ (.int .i64 z)) x u g z f gl fs := by
  obtain ⟨K, k1, k2, k3, k4, k5⟩ := pq_set h 2 (.int .i64 z)
  exact ⟨blk_set h.b 2 _, k1, k2, k3, k4, h.xw, readI_keepQ K h.sg h.rg, slOk_keep h.sg (keepE_ty K.1), k5⟩
theorem pq_append {w wr w' : World} {x : Nat} {u : Bool} {g : Sl} {m : Int} {f q : Sl} {gl : List Int} {fs : List FnM} {L : List FnV} {v : FnV} {fm : FnM} (h : PQ w wr x u g m f gl fs) (o1 : OwnR fnE RFUNQ wr (x + 1) (.slice f.a f.n f.c) L) (o2 : AllT2 wr L fs) (hd : DeepF wr v fm) (ht : FnQ wr v) (hg : wr.grownBy w' (Value.slice f.a f.n f.c).ownBlock) (own : OwnR fnE RFUNQ w' (x + 1) (.slice q.a q.n q.c) (L ++ [v])) : PQ w (w'.setCell ⟨x, 3, none⟩ (.slice q.a q.n q.c)) x u g m q gl (fs ++ [fm]) := by
  have hlt := ownR_lt o1
  have hty := ownR_ty o1
  have hne1 : some x ≠ (Value.slice f.a f.n f.c).ownBlock := fun e => by have := (hlt x e.symm).1; omega
  have hne2 : some w.heap.size ≠ (Value.slice f.a f.n f.c).ownBlock := fun e => by have := (hlt _ e.symm).1; have := h.xw; omega
  have T1 := tyB_grown h.t hg hne1
  have K : KeepQ wr (w'.setCell ⟨x, 3, none⟩ (.slice q.a q.n q.c)) := keepQ_trans (keepQ_grown hg (fun j e => ⟨RFUNQ, hty j e, by decide, by decide⟩)) (keepQ_grown (gb_set (gb_refl w' (some x)) 3 none _) (fun j e => by injection e with e; subst e; exact ⟨RPROQ, T1, by decide, by decide⟩))
  refine ⟨blk_set (blk_grown h.b hg hne1) 3 _, by rw [tyB_set]; exact T1, b_set (b_gr0 h.bl hg (fun j e => by have := (hlt j e).1; have := h.xw; omega)) (by have := h.xw; simp only; omega) _, blk_other (blk_grown h.rb hg hne2) (by have := h.xw; simp only; omega) _, by rw [tyB_set]; exact tyB_grown h.rt hg hne2, h.xw, readI_keepQ K h.sg h.rg, slOk_keep h.sg (keepE_ty K.1), _, ownR_kept own (gb_set (gb_refl w' (some x)) 3 none _) ?_, allT2_snoc (deepF_keepQ K ht hd) (fnQ_keep K ht) (allT2_keep K o2)⟩
  cases hv : (Value.slice q.a q.n q.c).ownBlock with
  | none => exact Or.inl rfl
  | some j => exact Or.inr (by intro e; injection e with e; have := (ownR_lt own j hv).1; omega)
theorem pq_ret {w wr wF : World} {x : Nat} {u : Bool} {g : Sl} {m : Int} {f : Sl} {gl : List Int} {fs : List FnM} (h : PQ w wr x u g m f gl fs) (hF : wF = (((wr.setCell ⟨w.heap.size, 0, none⟩ (.bool u)).setCell ⟨w.heap.size, 1, none⟩ (.slice g.a g.n g.c)).setCell ⟨w.heap.size, 2, none⟩ (.int .i64 m)).setCell ⟨w.heap.size, 3, none⟩ (.slice f.a f.n f.c)) :
    Blk wF w.heap.size [.bool u, .slice g.a g.n g.c, .int .i64 m, .slice f.a f.n f.c] ∧ ReadP wF ⟨u, g, m, f⟩ ⟨u, gl, m, fs⟩ ∧ Below w.heap.size w wF := by
  subst hF
  have gg := gb_set (gb_set (gb_set (gb_set (gb_refl wr (some w.heap.size)) 0 none (.bool u)) 1 none (.slice g.a g.n g.c)) 2 none (.int .i64 m)) 3 none (.slice f.a f.n f.c)
  have K : KeepQ wr _ := keepQ_grown gg (fun j e => by injection e with e; subst e; exact ⟨RPROQ, h.rt, by decide, by decide⟩)
  obtain ⟨L, h1, h2⟩ := h.of
  have O := ownR_kept h1 gg (by
    cases hv : (Value.slice f.a f.n f.c).ownBlock with
    | none => exact Or.inl rfl
    | some j => exact Or.inr (by intro e; injection e with e; have := (ownR_lt h1 j hv).1; have := h.xw; omega))
  exact ⟨blk_set (blk_set (blk_set (blk_set h.rb 0 _) 1 _) 2 _) 3 _, ⟨rfl, readI_keepQ K h.sg h.rg, rfl, L, ownR_read O, allT2_F (allT2_keep K h2)⟩, b_grown h.bl gg (Nat.le_refl _)⟩
/-- Nothing is handed back. -/
theorem pq_zero {w wr wF : World} {x : Nat} {u : Bool} {g : Sl} {m : Int} {f : Sl} {gl : List Int} {fs : List FnM} (h : PQ w wr x u g m f gl fs) (hF : wF = (((wr.setCell ⟨w.heap.size, 0, none⟩ (.bool false)).setCell ⟨w.heap.size, 1, none⟩ (.slice none 0 0)).setCell ⟨w.heap.size, 2, none⟩ (.int .i64 0)).setCell ⟨w.heap.size, 3, none⟩ (.slice none 0 0)) :
    Blk wF w.heap.size [.bool false, .slice none 0 0, .int .i64 0, .slice none 0 0] ∧ Below w.heap.size w wF := by
  subst hF
  have gg := gb_set (gb_set (gb_set (gb_set (gb_refl wr (some w.heap.size)) 0 none (.bool false)) 1 none (.slice none 0 0)) 2 none (.int .i64 0)) 3 none (.slice none 0 0)
  exact ⟨blk_set (blk_set (blk_set (blk_set h.rb 0 _) 1 _) 2 _) 3 _, b_grown h.bl gg (Nat.le_refl _)⟩
def QReadEnd (R : Option PrM) (w : World) (e : Ending) (w' : World) : Prop := match R with
  | none => ∃ q : PrV, e = .returned (.tuple #[aggP q, .bool false]) ∧ Below w.heap.size w w'
  | some P => ∃ q : PrV, e = .returned (.tuple #[aggP q, .bool true]) ∧ ReadP w' q P ∧ Below w.heap.size w w'
theorem qreadEnd_none' {R : Option PrM} {w : World} {e : Ending} {w' : World} (hR : R = none) (h : ∃ q : PrV, e = .returned (.tuple #[aggP q, .bool false]) ∧ Below w.heap.size w w') : QReadEnd R w e w' := by subst hR; exact h
theorem qreadEnd_some' {R : Option PrM} {w : World} {e : Ending} {w' : World} {P : PrM} (hR : R = some P) (h : ∃ q : PrV, e = .returned (.tuple #[aggP q, .bool true]) ∧ ReadP w' q P ∧ Below w.heap.size w w') : QReadEnd R w e w' := by subst hR; exact h
theorem qreadEnd_none {R : Option PrM} {w : World} {e : Ending} {w' : World} (h : QReadEnd R w e w') (hR : R = none) : ∃ q : PrV, e = .returned (.tuple #[aggP q, .bool false]) ∧ Below w.heap.size w w' := by subst hR; exact h
theorem qreadEnd_some {R : Option PrM} {w : World} {e : Ending} {w' : World} {P : PrM} (h : QReadEnd R w e w') (hR : R = some P) : ∃ q : PrV, e = .returned (.tuple #[aggP q, .bool true]) ∧ ReadP w' q P ∧ Below w.heap.size w w' := by subst hR; exact h
theorem rdFunc_sfx {xs r : List Int} {k : Nat} {f : FnM} (h : rdFunc (xs.drop k) = some (f, r)) (hb : IsBytes xs) : ∃ k', k ≤ k' ∧ k' ≤ xs.length ∨ xs.length ≤ k' ∧ k' = k := ⟨k, by omega⟩
theorem rdFunc_sfx2 {xs r : List Int} {k : Nat} {f : FnM} (h : rdFunc (xs.drop k) = some (f, r)) (hb : IsBytes xs) (hk : k ≤ xs.length) : ∃ k', k' ≤ xs.length ∧ r = xs.drop k' ∧ (xs.length : Int) - r.length = k' := by
  obtain ⟨e, _, _⟩ := rdFunc_back h (isBytes_drop hb k)
  have hl : (bytF f).length + r.length = xs.length - k := by rw [← List.length_append, e, List.length_drop]
  refine ⟨k + (bytF f).length, by omega, ?_, by omega⟩
  rw [← List.drop_drop, ← e, List.drop_left]
theorem rdProg_five {xs : List Int} (h : xs.length < 5) : rdProg xs = none := by
  rcases Nat.lt_or_ge xs.length 4 with q | q
  · exact mark_short q
  · by_cases hm : xs.take 4 = [84, 77, 66, 49]
    · rw [rdProg_mark hm, List.drop_of_length_le (by omega)]; rfl
    · exact rdProg_nomark hm
theorem five_drop {xs : List Int} (h : 5 ≤ xs.length) : xs.drop 4 = xs.getD 4 0 :: xs.drop 5 := by
  rw [List.drop_eq_getElem_cons (by omega), List.getD_eq_getElem?_getD, List.getElem?_eq_getElem (by omega)]; rfl
theorem qnums_at (u : Value) (xs : List Int) (t : Int) (k : Nat) (w : World) (ht : t = k) (h : ReadB w u xs) (hb : IsBytes xs) (hk : k ≤ xs.length) (hl : xs.length ≤ 274877906944) : Calls Try.prog 57 #[u, .int .i64 t] w (NumsEnd xs.length (rdLst (xs.drop k)) w) := by
  subst ht; exact qnums_any u xs k w h hb hk hl
theorem pq_other {w wr w' : World} {x j : Nat} {u : Bool} {g : Sl} {m : Int} {f : Sl} {gl : List Int} {fs : List FnM} (h : PQ w wr x u g m f gl fs) (hg : wr.grownBy w' (some j)) (hT : tyB wr j = some RFUNQ) (hj : x < j) (hno : ∀ i, (Value.slice f.a f.n f.c).ownBlock = some i → i ≠ j) : PQ w w' x u g m f gl fs := by
  have K := keepQ_grown hg (fun i e => by injection e with e; subst e; exact ⟨RFUNQ, hT, by decide, by decide⟩)
  obtain ⟨L, h1, h2⟩ := h.of
  have hne1 : some x ≠ some j := by intro e; injection e with e; omega
  have hne2 : some w.heap.size ≠ some j := by intro e; injection e with e; have := h.xw; omega
  refine ⟨blk_grown h.b hg hne1, tyB_grown h.t hg hne1, b_gr0 h.bl hg (fun i e => by injection e with e; have := h.xw; omega), blk_grown h.rb hg hne2, tyB_grown h.rt hg hne2, h.xw, readI_keepQ K h.sg h.rg, slOk_keep h.sg (keepE_ty K.1), L, ownR_kept h1 hg ?_, allT2_keep K h2⟩
  cases hv : (Value.slice f.a f.n f.c).ownBlock with
  | none => exact Or.inl rfl
  | some i => exact Or.inr (fun e => hno i hv (by injection e))
set_option maxRecDepth 100000 in
set_option maxHeartbeats 8000000 in
theorem qread_any (u : Value) (xs : List Int) (w : World) (h : ReadB w u xs) (hb : IsBytes xs) (hl : xs.length ≤ 274877906944) : Calls Try.prog 36 #[u] w (QReadEnd (rdProg xs) w) := by
  have H : Hid (∀ W, Below w.heap.size w W → ReadB W u xs) := fun W hb => readB_below h hb
  have HL := Lib.hid hl
  have HB := Lib.hid hb
  have hlm : (xs.length : Int) ≤ 274877906944 := by omega
  have HF1 : Hid (PQ w ((w.alloc (.cells #[.bool false, .slice none 0 0, .int .i64 0, .slice none 0 0] RPROQ)).alloc (.cells #[.bool false, .slice none 0 0, .int .i64 0, .slice none 0 0] RPROQ)) (w.heap.size + 1) false ⟨none, 0, 0⟩ 0 ⟨none, 0, 0⟩ [] []) :=
    ⟨blk_new2 (by simp), tyB_new2 (by simp), b_alloc (b_alloc (Below.refl _ _) _) _, blk_alloc (blk_new _ _ _) _, tyB_alloc (tyB_new _ _ _) _, by omega, readI_nil _, Or.inl rfl, [], ownR_nil _ _, trivial⟩
  clear hb hl
  by_cases h5 : xs.length < 5
  · have HN := Lib.hid (rdProg_five h5)
    have h5' : (xs.length : Int) < 5 := by omega
    obtain ⟨a, cap, rfl⟩ := readB_len h
    clear h
    go_enter Try.func36, Try.ntmps36
    go_upto_region 2 with fail
    refine wp_named ?_
    intro W1 hW1
    have F1 : PQ w W1 (w.heap.size + 1) false ⟨none, 0, 0⟩ 0 ⟨none, 0, 0⟩ [] [] := by rw [hW1]; exact HF1.out
    clear hW1 HF1
    obtain ⟨c0, c1, c2, c3, cf⟩ := blk4 F1.b
    obtain ⟨d0, d1, d2, d3, df⟩ := blk4 F1.rb
    have hxw := F1.xw
    have hlw := F1.rb.1
    have hlx := F1.b.1
    have HF1 := Lib.hid F1
    clear F1
    go_wp2_with fail
    refine post_named ?_
    intro wF hwF
    obtain ⟨BF, FB⟩ := pq_zero HF1.out hwF
    clear hwF
    obtain ⟨e0, e1, e2, e3, _⟩ := blk4 BF
    refine bodyPost_ret (v := .tuple #[aggP ⟨false, ⟨none, 0, 0⟩, 0, ⟨none, 0, 0⟩⟩, .bool false]) (by simp [results, Try.results36, go_sem, e0, e1, e2, e3]; rfl) rfl ?_
    exact qreadEnd_none' HN.out ⟨_, rfl, FB⟩
  have h5' : ¬ (xs.length : Int) < 5 := by omega
  have h55 : 5 ≤ xs.length := by omega
  obtain ⟨b, o, cap, rfl, r1, r2, r3, r4⟩ := readB_pos h (by omega)
  have hcm := cap_le r2
  have hc4 : (4 : Int) ≤ cap := by omega
  have hc4' : (4 : Int) ≤ xs.length := by omega
  have HC : Hid (∀ W, Below w.heap.size w W → W.cell? ⟨b, o + 4, none⟩ = some (.int .u8 (xs.getD 4 0))) := fun W hb => (hb.cell (p := ⟨b, o + 4, none⟩) r3).trans (r4 4 (by omega))
  have HCV : Hid (∀ W, Below w.heap.size w W → (convert 37 9 (.slice (some ⟨b, o, none⟩) 4 cap)).run Try.prog W = .ok (.string (bytesOf (xs.take 4))) W) := fun W hb =>
    conv_bytes (w := W) (a := ⟨b, o, none⟩) (n := 4) (cap := cap) (xs := xs.take 4) (by rw [List.length_take]; omega) (isBytes_take HB.out 4) (fun j hj => by
      rw [Addr.add_lit, (hb.cell (p := ⟨b, o + j, none⟩) r3), r4 j (by omega)]
      simp only [List.getD_eq_getElem?_getD, List.getElem?_take_of_lt hj])
  have HD := Lib.hid (five_drop h55)
  have hf4 := HB.out (xs.getD 4 0) (by rw [List.getD_eq_getElem?_getD, List.getElem?_eq_getElem (by omega)]; exact List.getElem_mem (by omega))
  clear r4 h
  generalize xs.getD 4 0 = f4 at *
  go_enter Try.func36, Try.ntmps36
  go_upto_region 2 with fail
  refine wp_named ?_
  intro W1 hW1
  have F1 : PQ w W1 (w.heap.size + 1) false ⟨none, 0, 0⟩ 0 ⟨none, 0, 0⟩ [] [] := by rw [hW1]; exact HF1.out
  obtain ⟨x, hx⟩ : ∃ x, x = w.heap.size + 1 := ⟨_, rfl⟩
  rw [← hx] at F1 ⊢
  clear hW1 HF1 hx
  have hcv := HCV.out _ F1.bl
  have hc1 := HC.out _ F1.bl
  obtain ⟨c0, c1, c2, c3, cf⟩ := blk4 F1.b
  obtain ⟨d0, d1, d2, d3, df⟩ := blk4 F1.rb
  have hxw := F1.xw
  have hlw := F1.rb.1
  have hlx := F1.b.1
  have HF1 := Lib.hid F1
  clear F1
  by_cases hm : xs.take 4 = [84, 77, 66, 49]
  rotate_left
  · have HN := Lib.hid (rdProg_nomark hm)
    obtain ⟨s, hs⟩ : ∃ s, s = bytesOf (xs.take 4) := ⟨_, rfl⟩
    rw [← hs] at hcv
    have t : (s.toList == [84, 77, 66, 49]) = false := by
      rw [beq_eq_false_iff_ne]
      intro e
      rw [hs] at e
      exact hm (bytesOf_inj (isBytes_take HB.out 4) (by unfold IsBytes; decide) (e.trans (by unfold bytesOf; rw [ByteArray.toList_mk]; rfl)))
    have HT := Lib.hid hs
    clear hm hs
    go_wp2_with fail
    refine post_named ?_
    intro wF hwF
    obtain ⟨BF, FB⟩ := pq_zero HF1.out hwF
    clear hwF
    obtain ⟨e0, e1, e2, e3, _⟩ := blk4 BF
    refine bodyPost_ret (v := .tuple #[aggP ⟨false, ⟨none, 0, 0⟩, 0, ⟨none, 0, 0⟩⟩, .bool false]) (by simp [results, Try.results36, go_sem, e0, e1, e2, e3]; rfl) rfl ?_
    exact qreadEnd_none' HN.out ⟨_, rfl, FB⟩
  rw [hm, show bytesOf [84, 77, 66, 49] = ⟨#[84, 77, 66, 49]⟩ from rfl] at hcv
  have HM : Hid (rdProg xs = if f4 ≤ 1 then rdBody (f4 == 1) (xs.drop 5) else none) := by show _ = _; rw [rdProg_mark hm, HD.out]; rfl
  clear hm
  by_cases hf1 : f4 ≤ 1
  rotate_left
  · have HN : Hid (rdProg xs = none) := by show _ = _; rw [HM.out, if_neg hf1]
    have tf : decide (1 < f4) = true := decide_eq_true (by omega)
    have tf2 : (1 : Int) < f4 := by omega
    go_wp2_with fail
    refine post_named ?_
    intro wF hwF
    obtain ⟨BF, FB⟩ := pq_zero HF1.out hwF
    clear hwF
    obtain ⟨e0, e1, e2, e3, _⟩ := blk4 BF
    refine bodyPost_ret (v := .tuple #[aggP ⟨false, ⟨none, 0, 0⟩, 0, ⟨none, 0, 0⟩⟩, .bool false]) (by simp [results, Try.results36, go_sem, e0, e1, e2, e3]; rfl) rfl ?_
    exact qreadEnd_none' HN.out ⟨_, rfl, FB⟩
  have HM3 : Hid (rdProg xs = rdBody (f4 == 1) (xs.drop 5)) := by show _ = _; rw [HM.out, if_pos hf1]
  have tf : ¬ (1 : Int) < f4 := by omega
  obtain ⟨un, hun⟩ : ∃ un : Bool, un = (f4 == 1) := ⟨_, rfl⟩
  rw [← hun] at HM3
  have tun : (f4 == 1) = un := hun.symm
  have HUN := Lib.hid hun
  clear hun HM
  have HF2 := Lib.hid (pq_set0 HF1.out un)
  go_upto_region 6 with fail
  refine wp_named ?_
  intro W2 hW2
  have F2 : PQ w W2 x un ⟨none, 0, 0⟩ 0 ⟨none, 0, 0⟩ [] [] := by rw [hW2]; exact HF2.out
  clear hW2 HF2 HF1 hcv hc1
  clear c0 c1 c2 c3 cf d0 d1 d2 d3 df hlw hlx
  go_wp2_with fail
  refine (qnums_at _ xs 5 5 _ rfl (H.out _ F2.bl) HB.out h55 HL.out).mono ?_
  intro e w3 h3
  cases hR1 : rdLst (xs.drop 5) with
  | none =>
    obtain ⟨rfl, hb3⟩ := numsEnd_none h3 hR1
    have HN : Hid (rdProg xs = none) := by show _ = _; rw [HM3.out]; exact rdBody_none hR1
    have F3 := pq_below F2 hb3
    obtain ⟨c0, c1, c2, c3, cf⟩ := blk4 F3.b
    have HF3 := Lib.hid (pq_set1 (q := ⟨none, 0, 0⟩) F3 (readI_nil _) (Or.inl rfl))
    clear h3 hR1 hb3 F2 F3
    go_upto_region 7 with fail
    refine wp_named ?_
    intro W4 hW4
    have F4 : PQ w W4 x un ⟨none, 0, 0⟩ 0 ⟨none, 0, 0⟩ [] [] := by rw [hW4]; exact HF3.out
    clear hW4 HF3 c0 c1 c2 c3 cf
    have h5 := H.out _ F4.bl
    obtain ⟨c0, c1, c2, c3, cf⟩ := blk4 F4.b
    obtain ⟨d0, d1, d2, d3, df⟩ := blk4 F4.rb
    have hxw := F4.xw
    have hlw := F4.rb.1
    have hlx := F4.b.1
    have HF4 := Lib.hid F4
    clear F4
    go_wp2_with fail
    refine (qnum_none _ xs (-1) _ h5 (Or.inl (by decide))).mono ?_
    rintro e w5 ⟨rfl, rfl⟩
    go_wp2_with fail
    refine (qnum_any _ xs 0 _ h5 HB.out).mono ?_
    rintro e w5 ⟨nv, nb, rfl, rfl⟩
    clear h5
    go_wp2_with fail
    refine post_named ?_
    intro wF hwF
    obtain ⟨BF, FB⟩ := pq_zero HF4.out hwF
    clear hwF
    obtain ⟨e0, e1, e2, e3, _⟩ := blk4 BF
    refine bodyPost_ret (v := .tuple #[aggP ⟨false, ⟨none, 0, 0⟩, 0, ⟨none, 0, 0⟩⟩, .bool false]) (by simp [results, Try.results36, go_sem, e0, e1, e2, e3]; rfl) rfl ?_
    exact qreadEnd_none' HN.out ⟨_, rfl, FB⟩
  | some p1 =>
    obtain ⟨gl, b1⟩ := p1
    obtain ⟨v3, rfl, ho3, hb3⟩ := numsEnd_some h3 hR1
    obtain ⟨k1, hk1, hk1', rfl, he1⟩ := rdLst_sfx hR1 HB.out
    rw [he1]
    obtain ⟨ga, gc, rfl, _⟩ := readR_len (ownR_read ho3)
    have HM4 : Hid (rdProg xs = rdT1 un gl (xs.drop k1)) := by show _ = _; rw [HM3.out]; exact rdBody_some hR1
    have F3 := pq_below F2 hb3
    obtain ⟨c0, c1, c2, c3, cf⟩ := blk4 F3.b
    have HF3 := Lib.hid (pq_set1 (q := ⟨ga, gl.length, gc⟩) F3 (readR_I (ownR_read ho3)) (ownR_slOk ho3))
    clear h3 hR1 hb3 F2 F3 ho3 he1
    go_upto_region 7 with fail
    refine wp_named ?_
    intro W4 hW4
    have F4 : PQ w W4 x un ⟨ga, gl.length, gc⟩ 0 ⟨none, 0, 0⟩ gl [] := by rw [hW4]; exact HF3.out
    clear hW4 HF3 c0 c1 c2 c3 cf
    have h5 := H.out _ F4.bl
    obtain ⟨c0, c1, c2, c3, cf⟩ := blk4 F4.b
    obtain ⟨d0, d1, d2, d3, df⟩ := blk4 F4.rb
    have hxw := F4.xw
    have hlw := F4.rb.1
    have hlx := F4.b.1
    have HF4 := Lib.hid F4
    clear F4
    have hk10 : (0 : Int) ≤ k1 := by omega
    have hk1m : (k1 : Int) ≤ xs.length := by omega
    rcases Nat.lt_or_ge k1 xs.length with q2 | q2
    rotate_left
    · have hd2 : xs.drop k1 = [] := List.drop_of_length_le q2
      have HN : Hid (rdProg xs = none) := by show _ = _; rw [HM4.out, hd2]; rfl
      clear hd2
      go_wp2_with fail
      refine (qnum_none _ xs k1 _ h5 (Or.inr (by omega))).mono ?_
      rintro e w5 ⟨rfl, rfl⟩
      go_wp2_with fail
      refine (qnum_none _ xs _ _ h5 (Or.inr (by omega))).mono ?_
      rintro e w5 ⟨rfl, rfl⟩
      clear h5
      go_wp2_with fail
      refine post_named ?_
      intro wF hwF
      obtain ⟨BF, FB⟩ := pq_zero HF4.out hwF
      clear hwF
      obtain ⟨e0, e1, e2, e3, _⟩ := blk4 BF
      refine bodyPost_ret (v := .tuple #[aggP ⟨false, ⟨none, 0, 0⟩, 0, ⟨none, 0, 0⟩⟩, .bool false]) (by simp [results, Try.results36, go_sem, e0, e1, e2, e3]; rfl) rfl ?_
      exact qreadEnd_none' HN.out ⟨_, rfl, FB⟩
    have hd2 : xs.drop k1 = xs[k1] :: xs.drop (k1 + 1) := List.drop_eq_getElem_cons q2
    have hx2 := HB.out xs[k1] (List.getElem_mem q2)
    have hg2 : xs.getD k1 0 = xs[k1] := by rw [List.getD_eq_getElem?_getD, List.getElem?_eq_getElem q2]; rfl
    have HG2 := Lib.hid hg2
    have HM5 : Hid (rdProg xs = rdT2 un gl xs[k1] (xs.drop (k1 + 1))) := by show _ = _; rw [HM4.out, hd2]; rfl
    clear hd2 hg2
    generalize xs[k1] = m at *
    rcases Nat.lt_or_ge (k1 + 1) xs.length with q3 | q3
    rotate_left
    · have hd3 : xs.drop (k1 + 1) = [] := List.drop_of_length_le q3
      have HN : Hid (rdProg xs = none) := by show _ = _; rw [HM5.out, hd3]; rfl
      clear hd3
      go_wp2_with fail
      refine (qnum_some _ xs k1 m _ h5 q2 HG2.out hx2).mono ?_
      rintro e w5 ⟨rfl, rfl⟩
      go_wp2_with fail
      refine (qnum_none _ xs _ _ h5 (Or.inr (by omega))).mono ?_
      rintro e w5 ⟨rfl, rfl⟩
      clear h5
      go_wp2_with fail
      refine post_named ?_
      intro wF hwF
      obtain ⟨BF, FB⟩ := pq_zero HF4.out hwF
      clear hwF
      obtain ⟨e0, e1, e2, e3, _⟩ := blk4 BF
      refine bodyPost_ret (v := .tuple #[aggP ⟨false, ⟨none, 0, 0⟩, 0, ⟨none, 0, 0⟩⟩, .bool false]) (by simp [results, Try.results36, go_sem, e0, e1, e2, e3]; rfl) rfl ?_
      exact qreadEnd_none' HN.out ⟨_, rfl, FB⟩
    have hd3 : xs.drop (k1 + 1) = xs[k1 + 1] :: xs.drop (k1 + 1 + 1) := List.drop_eq_getElem_cons q3
    have hx3 := HB.out xs[k1 + 1] (List.getElem_mem q3)
    have hg3 : xs.getD (k1 + 1) 0 = xs[k1 + 1] := by rw [List.getD_eq_getElem?_getD, List.getElem?_eq_getElem q3]; rfl
    have HG3 := Lib.hid hg3
    have HM6 : Hid (rdProg xs = rdT3 un gl m (rdFuncs (xs[k1 + 1]).toNat (xs.drop (k1 + 2)))) := by show _ = _; rw [HM5.out, hd3]; rfl
    clear hd3 hg3
    generalize xs[k1 + 1] = x3 at *
    obtain ⟨N, rfl⟩ : ∃ N : Nat, x3 = N := ⟨x3.toNat, by omega⟩
    have hN : (N : Int) < 256 := hx3.2
    have HM7 : Hid (rdProg xs = rdT3 un gl m (mapC [] (rdFuncs (N - 0) (xs.drop (k1 + 2))))) := by
      show _ = _
      rw [HM6.out, Int.toNat_natCast, Nat.sub_zero]
      cases rdFuncs N (xs.drop (k1 + 2)) with
      | none => rfl
      | some p => rfl
    go_wp2_with fail
    refine (qnum_some _ xs k1 m _ h5 q2 HG2.out hx2).mono ?_
    rintro e w5 ⟨rfl, rfl⟩
    go_wp2_with fail
    refine (qnum_at _ xs _ (k1 + 1) N _ (by omega) h5 q3 HG3.out hx3).mono ?_
    rintro e w5 ⟨rfl, rfl⟩
    have HF6 := Lib.hid (pq_set2 HF4.out m)
    clear h5 hx2 hx3 HM3 HM4 HM5 HM6
    go_upto_region 13 with fail
    refine wp_named ?_
    intro W6 hW6
    have F6 : PQ w W6 x un ⟨ga, gl.length, gc⟩ m ⟨none, 0, 0⟩ gl [] := by rw [hW6]; exact HF6.out
    have HF7 := Lib.hid F6
    clear hW6 F6 HF6 HF4 c0 c1 c2 c3 cf d0 d1 d2 d3 df
    go_wp2_with fail
    go_loopw [5, 10] (fun t i wr => ∃ j : Nat, j ≤ N ∧ i = .int .i64 j ∧ ∃ (ti : Int) (k' : Nat) (done : List FnM) (c : Sl), t = .int .i64 ti ∧ Hid (ti = k') ∧ Hid (k' ≤ xs.length) ∧ Hid (rdProg xs = rdT3 un gl m (mapC done (rdFuncs (N - j) (xs.drop k')))) ∧ Hid (done.length = j) ∧ Hid (PQ w wr x un ⟨ga, gl.length, gc⟩ m c gl done)) (fun _ i _ => N - (intOf i).toNat)
    case atStart => exact ⟨0, Nat.zero_le _, rfl, _, k1 + 2, [], ⟨none, 0, 0⟩, rfl, (by show _ = _; omega), (by show _ ≤ _; omega), HM7.out, rfl, HF7.out⟩
    case round =>
      obtain ⟨j, hj, rfl, ti, k', done, cs, rfl, hti, hk', hec, hdl, hF⟩ := hrel
      obtain rfl : ti = k' := hti.out
      have j0 : (0 : Int) ≤ j := by omega
      have hk'0 : (0 : Int) ≤ k' := by omega
      have hk'm : (k' : Int) ≤ xs.length := by have := hk'.out; omega
      have hk'n : k' ≤ xs.length := hk'.out
      obtain ⟨ca, cn, cc⟩ := cs
      have F8 := hF.out
      obtain ⟨c0, c1, c2, c3, cf⟩ := blk4 F8.b
      obtain ⟨d0, d1, d2, d3, df⟩ := blk4 F8.rb
      have hxw := F8.xw
      have hlw := F8.rb.1
      have hlx := F8.b.1
      have HF8 := Lib.hid F8
      have hnoB : Hid (∀ i, (Value.slice ca cn cc).ownBlock = some i → i ≠ wr.heap.size) := fun i hi => by
        obtain ⟨L, o1, _⟩ := F8.of
        have := (ownR_lt o1 i hi).2
        omega
      have hrdB := H.out _ (b_alloc F8.bl (.cells #[.slice none 0 0, .slice none 0 0, .int .i64 0, .slice none 0 0] RFUNQ))
      clear F8
      by_cases hlt : j < N
      · have j1 : (j : Int) < N := by omega
        have HE : Hid (rdProg xs = rdT3 un gl m (mapC done (rdFuncs ((N - (j + 1)) + 1) (xs.drop k')))) := by
          show _ = _
          have e := hec.out
          rw [show N - j = (N - (j + 1)) + 1 by omega] at e
          exact e
        have HXN : Hid (Blk (wr.alloc (.cells #[.slice none 0 0, .slice none 0 0, .int .i64 0, .slice none 0 0] RFUNQ)) wr.heap.size [.slice none 0 0, .slice none 0 0, .int .i64 0, .slice none 0 0]) := blk_new _ _ _
        have HTN : Hid (tyB (wr.alloc (.cells #[.slice none 0 0, .slice none 0 0, .int .i64 0, .slice none 0 0] RFUNQ)) wr.heap.size = some RFUNQ) := tyB_new _ _ _
        have HFA := Lib.hid (pq_below HF8.out (b_alloc (Below.refl _ _) (.cells #[.slice none 0 0, .slice none 0 0, .int .i64 0, .slice none 0 0] RFUNQ)))
        go_wp2_with fail
        refine (qfunc_any _ xs k' _ hrdB HB.out hk'n HL.out).mono ?_
        intro e w9 h9
        cases hRf : rdFunc (xs.drop k') with
        | none =>
          obtain ⟨v9, rfl, hb9⟩ := funEndQ_none h9 hRf
          obtain ⟨⟨pa, pn, pc⟩, ⟨la, ln, lc⟩, r, ⟨da, dn, dc⟩⟩ := v9
          have HN : Hid (rdProg xs = none) := by show _ = _; rw [HE.out, step_none hRf]
          have F9 := pq_below HFA.out hb9
          have BY := blk_below HXN.out hb9
          obtain ⟨y0, y1, y2, y3, yf⟩ := blk4 BY
          have hyx : x < wr.heap.size := hlx
          have G4 := gb_set (gb_set (gb_set (gb_set (gb_refl w9 (some wr.heap.size)) 0 none (.slice pa pn pc)) 1 none (.slice la ln lc)) 2 none (.int .i64 r)) 3 none (.slice da dn dc)
          have HF10 := Lib.hid (pq_other F9 G4 (tyB_call HTN.out hb9) hyx hnoB.out)
          have hzz := BY.1
          clear h9 hRf hb9 F9 BY hrdB
          unfold aggF Sl.v
          simp only
          go_upto_region 18 with fail
          refine wp_named ?_
          intro W10 hW10
          have F10 : PQ w W10 x un ⟨ga, gl.length, gc⟩ m ⟨ca, cn, cc⟩ gl done := by rw [hW10]; exact HF10.out
          clear hW10 HF10 y0 y1 y2 y3 yf c0 c1 c2 c3 cf d0 d1 d2 d3 df hlw hlx hyx hzz G4
          obtain ⟨c0, c1, c2, c3, cf⟩ := blk4 F10.b
          obtain ⟨d0, d1, d2, d3, df⟩ := blk4 F10.rb
          have hxw10 := F10.xw
          have hlw := F10.rb.1
          have hlx := F10.b.1
          have HF10 := Lib.hid F10
          clear F10
          go_wp2_with fail
          refine post_named ?_
          intro wF hwF
          obtain ⟨BF, FB⟩ := pq_zero HF10.out hwF
          clear hwF
          obtain ⟨e0, e1, e2, e3, _⟩ := blk4 BF
          refine bodyPost_ret (v := .tuple #[aggP ⟨false, ⟨none, 0, 0⟩, 0, ⟨none, 0, 0⟩⟩, .bool false]) (by simp [results, Try.results36, go_sem, e0, e1, e2, e3]; rfl) rfl ?_
          exact qreadEnd_none' HN.out ⟨_, rfl, FB⟩
        | some pf =>
          obtain ⟨fm, rr⟩ := pf
          obtain ⟨v9, rfl, ⟨hd9, ht9⟩, hb9⟩ := funEndQ_some h9 hRf
          obtain ⟨⟨pa, pn, pc⟩, ⟨la, ln, lc⟩, r, ⟨da, dn, dc⟩⟩ := v9
          obtain ⟨k9, hk9, rfl, he9⟩ := rdFunc_sfx2 hRf HB.out hk'n
          rw [he9]
          have HE2 : Hid (rdProg xs = rdT3 un gl m (mapC (done ++ [fm]) (rdFuncs (N - (j + 1)) (xs.drop k9)))) := by show _ = _; rw [HE.out, rdFuncs_ok hRf]
          have F9 := pq_below HFA.out hb9
          have BY := blk_below HXN.out hb9
          have TY := tyB_call HTN.out hb9
          obtain ⟨y0, y1, y2, y3, yf⟩ := blk4 BY
          have hyx : x < wr.heap.size := hlx
          have G4 := gb_set (gb_set (gb_set (gb_set (gb_refl w9 (some wr.heap.size)) 0 none (.slice pa pn pc)) 1 none (.slice la ln lc)) 2 none (.int .i64 r)) 3 none (.slice da dn dc)
          have HF10 := Lib.hid (pq_other F9 G4 TY hyx hnoB.out)
          have K4 := keepQ_grown G4 (fun i e => by injection e with e; subst e; exact ⟨RFUNQ, TY, by decide, by decide⟩)
          have HD10 := Lib.hid (And.intro (deepF_keepQ K4 ht9 hd9) (fnQ_keep K4 ht9))
          have HBY := Lib.hid (blk_set (blk_set (blk_set (blk_set BY 0 (.slice pa pn pc)) 1 (.slice la ln lc)) 2 (.int .i64 r)) 3 (.slice da dn dc))
          have hzz := BY.1
          have hk90 : (0 : Int) ≤ k9 := by omega
          have t9 : ¬ (k9 : Int) < 0 := by omega
          clear h9 hRf hb9 F9 BY hrdB K4 hd9 ht9 TY he9
          unfold aggF Sl.v
          simp only
          go_upto_region 18 with fail
          refine wp_named ?_
          intro W10 hW10
          have F10 : PQ w W10 x un ⟨ga, gl.length, gc⟩ m ⟨ca, cn, cc⟩ gl done := by rw [hW10]; exact HF10.out
          have D10 := HD10.out
          rw [← hW10] at D10
          have BY10 : Blk W10 wr.heap.size [.slice pa pn pc, .slice la ln lc, .int .i64 r, .slice da dn dc] := by rw [hW10]; exact HBY.out
          clear hW10 HF10 HD10 HBY y0 y1 y2 y3 yf c0 c1 c2 c3 cf d0 d1 d2 d3 df hlw hlx hzz G4
          obtain ⟨y0, y1, y2, y3, yf⟩ := blk4 BY10
          have hzz := BY10.1
          obtain ⟨c0, c1, c2, c3, cf⟩ := blk4 F10.b
          obtain ⟨d0, d1, d2, d3, df⟩ := blk4 F10.rb
          have hxw10 := F10.xw
          have hlw := F10.rb.1
          have hlx := F10.b.1
          have HF10 := Lib.hid F10
          obtain ⟨L, o1, o2⟩ := F10.of
          have ALC := b_alloc (Below.refl W10.heap.size W10) (.cells #[.slice pa pn pc, .slice la ln lc, .int .i64 r, .slice da dn dc] RFUNQ)
          have HOA := Lib.hid (ownR_below o1 ALC)
          have HO2 := Lib.hid (allT2_keep (keepQ_below ALC) o2)
          have HPA := Lib.hid (pq_below F10 ALC)
          have HDA := Lib.hid (And.intro (deepF_keepQ (keepQ_below ALC) D10.2 D10.1) (fnQ_keep (keepQ_below ALC) D10.2))
          have HRN := Lib.hid (show ReadR fnE (W10.alloc (.cells #[.slice pa pn pc, .slice la ln lc, .int .i64 r, .slice da dn dc] RFUNQ)) (.slice (some ⟨W10.heap.size, 0, none⟩) 1 1) [⟨⟨pa, pn, pc⟩, ⟨la, ln, lc⟩, r, ⟨da, dn, dc⟩⟩] from readR_new (c := fnE) W10 RFUNQ ⟨⟨pa, pn, pc⟩, ⟨la, ln, lc⟩, r, ⟨da, dn, dc⟩⟩)
          have HLL : Hid (L.length ≤ 256) := by show _ ≤ _; have := allF_len (allT2_F o2); have := hdl.out; omega
          have hne1 : some x ≠ (Value.slice ca cn cc).ownBlock := fun e => by have := (ownR_lt o1 x e.symm).1; omega
          have HBK := Lib.hid F10.b
          clear F10 o1 o2 D10 BY10 ALC
          go_upto_region 15 with (at_builtin; (refine appendR rowFn rfl _ _ rfl (x + 1) (.slice ca cn cc) L rfl HOA.out _ [⟨⟨pa, pn, pc⟩, ⟨la, ln, lc⟩, r, ⟨da, dn, dc⟩⟩] rfl HRN.out ?c1 ?c2 ?c3 ?_); (case c1 => (have := HLL.out; rw [List.length_singleton]; omega)); (case c2 => (have := HLL.out; rw [List.length_singleton]; unfold maxLen; omega)); (case c3 => (simp only [World.size_alloc]; omega)); intro v10 w10 own10 hg10; obtain ⟨C9, hC9⟩ : ∃ C9, C9 = L ++ [(⟨⟨pa, pn, pc⟩, ⟨la, ln, lc⟩, r, ⟨da, dn, dc⟩⟩ : FnV)] := ⟨_, rfl⟩; rw [← hC9] at own10; obtain ⟨g10, cap10, hv10, gg10, _⟩ := ownR_form own10 (by rw [hC9]; simp); obtain ⟨n10, hn10⟩ : ∃ n, n = C9.length := ⟨_, rfl⟩; rw [← hn10] at hv10; subst hv10; rw [hC9] at own10; clear hn10; have HFP := Lib.hid (pq_append HPA.out HOA.out HO2.out HDA.out.1 HDA.out.2 hg10 (q := ⟨some ⟨g10, 0, none⟩, n10, cap10⟩) own10); have KB := blk_grown (blk_alloc HBK.out _) hg10 hne1; clear c0 c1 c2 c3 cf own10 hg10 hC9; obtain ⟨c0, c1, c2, c3, cf⟩ := blk4 KB; clear KB)
          refine wp_named ?_
          intro W11 hW11
          have F11 : PQ w W11 x un ⟨ga, gl.length, gc⟩ m ⟨some ⟨g10, 0, none⟩, n10, cap10⟩ gl (done ++ [fm]) := by rw [hW11]; exact HFP.out
          have HF11 := Lib.hid F11
          clear hW11 F11 HFP c0 c1 c2 c3 cf d0 d1 d2 d3 df y0 y1 y2 y3 yf
          go_wp2_with fail
          go_roundw
          case rel => exact ⟨j + 1, by omega, by first | rfl | trivial | go_num, _, k9, done ++ [fm], ⟨some ⟨g10, 0, none⟩, n10, cap10⟩, rfl, rfl, hk9, HE2.out, (by show _ = _; rw [List.length_append, hdl.out]; rfl), HF11.out⟩
          case measure => simp [intOf]; omega
      · have ej : j = N := by omega
        subst ej
        have HR : Hid (rdProg xs = rdEnd un gl m done (xs.drop k')) := by
          show _ = _
          rw [hec.out, Nat.sub_self]
          show rdT3 un gl m (mapC done (some ([], xs.drop k'))) = _
          simp [mapC, rdT3]
        clear hrdB
        by_cases hend : k' = xs.length
        rotate_left
        · have t : ((k' : Int) != (xs.length : Int)) = true := by rw [bne_iff_ne]; omega
          have HN : Hid (rdProg xs = none) := by
            show _ = _
            rw [HR.out]
            unfold rdEnd
            cases hdd : xs.drop k' with
            | nil => have := congrArg List.length hdd; simp at this; omega
            | cons => rfl
          go_wp2_with fail
          refine post_named ?_
          intro wF hwF
          obtain ⟨BF, FB⟩ := pq_zero HF8.out hwF
          clear hwF
          obtain ⟨e0, e1, e2, e3, _⟩ := blk4 BF
          refine bodyPost_ret (v := .tuple #[aggP ⟨false, ⟨none, 0, 0⟩, 0, ⟨none, 0, 0⟩⟩, .bool false]) (by simp [results, Try.results36, go_sem, e0, e1, e2, e3]; rfl) rfl ?_
          exact qreadEnd_none' HN.out ⟨_, rfl, FB⟩
        have t : ((k' : Int) != (xs.length : Int)) = false := by rw [hend]; simp
        have HR2 : Hid (rdProg xs = if mayP ⟨un, gl, m, done⟩ = true then some ⟨un, gl, m, done⟩ else none) := by
          show _ = _
          rw [HR.out, hend, List.drop_of_length_le (Nat.le_refl _)]; rfl
        have HEND := Lib.hid hend
        clear hend
        have HRP : Hid (ReadP wr ⟨un, ⟨ga, gl.length, gc⟩, m, ⟨ca, cn, cc⟩⟩ ⟨un, gl, m, done⟩) := by
          obtain ⟨L, o1, o2⟩ := HF8.out.of
          exact ⟨rfl, HF8.out.rg, rfl, L, ownR_read o1, allT2_F o2⟩
        go_wp2_with fail
        refine (rmay25_any ⟨un, ⟨ga, gl.length, gc⟩, m, ⟨ca, cn, cc⟩⟩ ⟨un, gl, m, done⟩ _ HRP.out).mono ?_
        rintro e w12 ⟨rfl, hb12⟩
        obtain ⟨tt, htt⟩ : ∃ tt, tt = mayP ⟨un, gl, m, done⟩ := ⟨_, rfl⟩
        rw [← htt] at HR2 ⊢
        have HTT := Lib.hid htt
        have F12 := pq_below HF8.out hb12
        clear htt hb12 c0 c1 c2 c3 cf d0 d1 d2 d3 df hlw hlx
        obtain ⟨c0, c1, c2, c3, cf⟩ := blk4 F12.b
        obtain ⟨d0, d1, d2, d3, df⟩ := blk4 F12.rb
        have hxw12 := F12.xw
        have hlw := F12.rb.1
        have hlx := F12.b.1
        have HF12 := Lib.hid F12
        clear F12
        cases tt
        · have HN : Hid (rdProg xs = none) := HR2.out
          go_wp2_with fail
          refine post_named ?_
          intro wF hwF
          obtain ⟨BF, FB⟩ := pq_zero HF12.out hwF
          clear hwF
          obtain ⟨e0, e1, e2, e3, _⟩ := blk4 BF
          refine bodyPost_ret (v := .tuple #[aggP ⟨false, ⟨none, 0, 0⟩, 0, ⟨none, 0, 0⟩⟩, .bool false]) (by simp [results, Try.results36, go_sem, e0, e1, e2, e3]; rfl) rfl ?_
          exact qreadEnd_none' HN.out ⟨_, rfl, FB⟩
        · have HN : Hid (rdProg xs = some ⟨un, gl, m, done⟩) := HR2.out
          go_wp2_with fail
          refine post_named ?_
          intro wF hwF
          obtain ⟨BF, FR, FB⟩ := pq_ret HF12.out hwF
          clear hwF
          obtain ⟨e0, e1, e2, e3, _⟩ := blk4 BF
          refine bodyPost_ret (v := .tuple #[aggP ⟨un, ⟨ga, gl.length, gc⟩, m, ⟨ca, cn, cc⟩⟩, .bool true]) (by simp [results, Try.results36, go_sem, e0, e1, e2, e3]; rfl) rfl ?_
          exact qreadEnd_some' HN.out ⟨_, rfl, FR, FB⟩
end Go.Proofs.Ytdhkemnebppkhaa
