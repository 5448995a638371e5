/- Layer 3: what stands while a view's two rows grow. Conditions: those stated. -/
import Derived.Test.YtgbbnmjfkhconaaAreV
namespace Go.Proofs.Ytgbbnmjfkhconaa
open Go.RowKit
set_option linter.unusedVariables false
set_option linter.unusedSimpArgs false
/-- The two rows of a view, some appends later. -/
structure VSt (w : World) (vb B : Nat) (ov wv : Value) (wa : World) (ov' wv' : Value) (O W : List Int) : Prop where
  o : OwnR u64E U64T wa B ov' O
  wh : OwnR i64E I64T wa B wv' W
  gx : GrowX w wa (fun j => ov.ownBlock = some j ∨ wv.ownBlock = some j)
  no : ∀ j, ov'.ownBlock = some j → ov.ownBlock = some j ∨ w.heap.size ≤ j
  nw : ∀ j, wv'.ownBlock = some j → wv.ownBlock = some j ∨ w.heap.size ≤ j
  ne1 : ov.ownBlock ≠ some vb
  ne2 : wv.ownBlock ≠ some vb
  lt : vb < w.heap.size
section
variable {w wa wb : World} {vb B : Nat} {ov wv ov' wv' : Value} {O W : List Int}
theorem VSt.hd (h : VSt w vb B ov wv wa ov' wv' O W) {u0 u1 u2 u3 : Value} (hb : Blk w vb [u0, u1, u2, u3]) : wa.cell? ⟨vb, 2, none⟩ = some u2 ∧ wa.cell? ⟨vb, 3, none⟩ = some u3 := by
  obtain ⟨_, _, c2, c3, _⟩ := blk4 (blk_gx hb h.gx (fun e => e.elim h.ne1 h.ne2))
  exact ⟨c2, c3⟩
theorem st_alloc (h : VSt w vb B ov wv wa ov' wv' O W) (o : Obj) : VSt w vb B ov wv (wa.alloc o) ov' wv' O W :=
  ⟨ownR_alloc h.o o, ownR_alloc h.wh o, gx_alloc h.gx o, h.no, h.nw, h.ne1, h.ne2, h.lt⟩
theorem u64_ne_i64 : U64T ≠ I64T := by decide
theorem st_appO (h : VSt w vb B ov wv wa ov' wv' O W) {g n cap : Nat} {O2 : List Int} (ho : OwnR u64E U64T wb B (.slice (some ⟨g, 0, none⟩) n cap) O2) (hg : wa.grownBy wb ov'.ownBlock) (hor : ov'.ownBlock = some g ∨ g = wa.heap.size) : VSt w vb B ov wv wb (.slice (some ⟨g, 0, none⟩) n cap) wv' O2 W := by
  have hs := h.gx.size
  refine ⟨ho, ownR_gx h.wh (gx_gb (X := fun j => ov'.ownBlock = some j) hg (fun k hk => hk)) (fun k hk e => ownR_ne2 h.o h.wh u64_ne_i64 k k e hk rfl), gx_trans h.gx (gx_gb (X := fun j => ov'.ownBlock = some j) hg (fun k hk => hk)) (fun _ _ h => h) (fun k hk e => ?_), fun j hj => ?_, h.nw, h.ne1, h.ne2, h.lt⟩
  · rcases h.no k e with q | q
    · exact Or.inl q
    · omega
  · have e : g = j := by have e1 : some g = some j := hj; injection e1
    subst e
    rcases hor with q | q
    · exact h.no _ q
    · exact Or.inr (by omega)
theorem st_appW (h : VSt w vb B ov wv wa ov' wv' O W) {g n cap : Nat} {W2 : List Int} (ho : OwnR i64E I64T wb B (.slice (some ⟨g, 0, none⟩) n cap) W2) (hg : wa.grownBy wb wv'.ownBlock) (hor : wv'.ownBlock = some g ∨ g = wa.heap.size) : VSt w vb B ov wv wb ov' (.slice (some ⟨g, 0, none⟩) n cap) O W2 := by
  have hs := h.gx.size
  refine ⟨ownR_gx h.o (gx_gb (X := fun j => wv'.ownBlock = some j) hg (fun k hk => hk)) (fun k hk e => ownR_ne2 h.o h.wh u64_ne_i64 k k hk e rfl), ho, gx_trans h.gx (gx_gb (X := fun j => wv'.ownBlock = some j) hg (fun k hk => hk)) (fun _ _ h => h) (fun k hk e => ?_), h.no, fun j hj => ?_, h.ne1, h.ne2, h.lt⟩
  · rcases h.nw k e with q | q
    · exact Or.inr q
    · omega
  · have e : g = j := by have e1 : some g = some j := hj; injection e1
    subst e
    rcases hor with q | q
    · exact h.nw _ q
    · exact Or.inr (by omega)
/-- A view right ahead. -/
theorem st_start {p : Value} {n : Int} (V : ViewAt w vb p n ov wv B O W) : VSt w vb B ov wv w.drew ov wv O W :=
  ⟨V.o, V.wh, gx_drew (gx_refl w _), fun j hj => Or.inl hj, fun j hj => Or.inl hj, fun e => ownR_ne V.o V.ty (by decide) vb e rfl, fun e => ownR_ne V.wh V.ty (by decide) vb e rfl, V.bk.1⟩
/-- A newer block is none of the older row's. -/
theorem st_neO {p : Value} {n : Int} (V : ViewAt w vb p n ov wv B O W) {k : Nat} (hk : w.heap.size ≤ k) : some k ≠ ov.ownBlock := fun e => by
  have := (ownR_lt V.o k e.symm).2; omega
/-- The two stores behind it. -/
theorem st_stores {p : Value} {n : Int} (V : ViewAt w vb p n ov wv B O W) {O2 W2 : List Int} (h : VSt w vb B ov wv wa ov' wv' O2 W2) : ViewAt ((wa.setCell ⟨vb, 2, none⟩ ov').setCell ⟨vb, 3, none⟩ wv') vb p n ov' wv' B O2 W2 ∧ GrowX w ((wa.setCell ⟨vb, 2, none⟩ ov').setCell ⟨vb, 3, none⟩ wv') (fun j => j = vb ∨ ov.ownBlock = some j ∨ wv.ownBlock = some j) := by
  have hb := blk_gx V.bk h.gx (fun e => e.elim h.ne1 h.ne2)
  have ht := tyB_gx V.ty h.gx (fun e => e.elim h.ne1 h.ne2)
  have G : wa.grownBy ((wa.setCell ⟨vb, 2, none⟩ ov').setCell ⟨vb, 3, none⟩ wv') (some vb) := gb_set (gb_set (gb_refl _ _) _ _ _) _ _ _
  have GX := gx_gb (X := fun j => j = vb) G (fun k e => by injection e with e; exact e.symm)
  refine ⟨⟨blk_set (blk_set hb 2 ov') 3 wv', by rw [tyB_set, tyB_set]; exact ht, ownR_gx h.o GX (fun k hk e => by subst e; exact ownR_ne h.o ht (by decide) k hk rfl), ownR_gx h.wh GX (fun k hk e => by subst e; exact ownR_ne h.wh ht (by decide) k hk rfl)⟩, ?_⟩
  exact gx_trans h.gx GX (fun k _ e => Or.inr e) (fun k _ e => Or.inl e)
end
/-- The other end: a view's count is one more. -/
theorem view_count {w : World} {vb B : Nat} {p : Value} {n m : Int} {ov wv : Value} {O W : List Int} (V : ViewAt w vb p n ov wv B O W) : ViewAt (w.setCell ⟨vb, 1, none⟩ (.int .i64 m)) vb p m ov wv B O W ∧ w.grownBy (w.setCell ⟨vb, 1, none⟩ (.int .i64 m)) (some vb) := by
  have G : w.grownBy (w.setCell ⟨vb, 1, none⟩ (.int .i64 m)) (some vb) := gb_set (gb_refl _ _) _ _ _
  have GX := gx_gb (X := fun j => j = vb) G (fun k e => by injection e with e; exact e.symm)
  exact ⟨⟨blk_set V.bk 1 _, by rw [tyB_set]; exact V.ty, ownR_gx V.o GX (fun k hk e => by subst e; exact ownR_ne V.o V.ty (by decide) k hk rfl), ownR_gx V.wh GX (fun k hk e => by subst e; exact ownR_ne V.wh V.ty (by decide) k hk rfl)⟩, G⟩
theorem view_gx {w w' : World} {vb B : Nat} {p : Value} {n : Int} {ov wv : Value} {O W : List Int} {X : Nat → Prop} (V : ViewAt w vb p n ov wv B O W) (hg : GrowX w w' X) (h1 : ¬ X vb) (h2 : ∀ k, ov.ownBlock = some k → ¬ X k) (h3 : ∀ k, wv.ownBlock = some k → ¬ X k) : ViewAt w' vb p n ov wv B O W :=
  ⟨blk_gx V.bk hg h1, tyB_gx V.ty hg h1, ownR_gx V.o hg h2, ownR_gx V.wh hg h3⟩
theorem are_gx {w w' : World} {b g cap : Nat} {L : List Int} {X : Nat → Prop} (H : AreAt w b g cap L) (hg : GrowX w w' X) (h1 : ¬ X b) (h2 : ¬ X g) : AreAt w' b g cap L :=
  ⟨blk_gx H.hd hg h1, blk_gx H.rw hg h2, H.ne, H.le, H.cp, H.by_, H.mx⟩
end Go.Proofs.Ytgbbnmjfkhconaa
