/- Layer 25: the document's function at a place. Conditions: the bytes read as such, and are bytes. -/
import Derived.Test.YtdhkemnebppkhaaRRd25
import Derived.Test.YtdhkemnebppkhaaRdLaw25
import Derived.Test.YtdhkemnebppkhaaInstrReadAll
namespace Go.Proofs.Ytdhkemnebppkhaa
open Go.RowKit
set_option linter.unusedVariables false
set_option linter.unusedSimpArgs false
def KeepQ (w w' : World) : Prop := KeepE INTT w w' ∧ KeepE RINSQ w w'
theorem keepQ_below {w w' : World} (hb : Below w.heap.size w w') : KeepQ w w' := ⟨keepE_below hb, keepE_below hb⟩
theorem keepQ_trans {a b c : World} (h : KeepQ a b) (h' : KeepQ b c) : KeepQ a c := ⟨keepE_trans h.1 h'.1, keepE_trans h.2 h'.2⟩
theorem keepQ_grown {w w' : World} {r : Option Nat} (hg : w.grownBy w' r) (h : ∀ j, r = some j → ∃ X, tyB w j = some X ∧ X ≠ INTT ∧ X ≠ RINSQ) : KeepQ w w' :=
  ⟨keepE_grown hg (fun j e => by obtain ⟨X, h1, h2, h3⟩ := h j e; exact ⟨X, h1, h2⟩), keepE_grown hg (fun j e => by obtain ⟨X, h1, h2, h3⟩ := h j e; exact ⟨X, h1, h3⟩)⟩
theorem readI_keepQ {w w' : World} {a : Option Addr} {n cap : Nat} {xs : List Int} (h : KeepQ w w') (ho : slOk w INTT a n) (hr : ReadI w (.slice a n cap) xs) : ReadI w' (.slice a n cap) xs := readR_I (readR_apart (readI_R hr) ho h.1.1 (fun k hk => h.1.2 k hk))
def FnQ (w : World) (f : FnV) : Prop := slOk w INTT f.p.a f.p.n ∧ slOk w INTT f.l.a f.l.n ∧ slOk w RINSQ f.c.a f.c.n
theorem fnQ_keep {w w' : World} {f : FnV} (h : KeepQ w w') (ht : FnQ w f) : FnQ w' f := ⟨slOk_keep ht.1 (keepE_ty h.1), slOk_keep ht.2.1 (keepE_ty h.1), slOk_keep ht.2.2 (keepE_ty h.2)⟩
theorem deepF_keepQ {w w' : World} {v : FnV} {f : FnM} (h : KeepQ w w') (ht : FnQ w v) (hd : DeepF w v f) : DeepF w' v f :=
  ⟨readI_keepQ h ht.1 hd.p, readI_keepQ h ht.2.1 hd.l, hd.r, readR_apart hd.c ht.2.2 h.2.1 (fun k hk => h.2.2 k hk)⟩
def AllT2 (w : World) : List FnV → List FnM → Prop
  | [], [] => True
  | v :: vs, f :: fs => (DeepF w v f ∧ FnQ w v) ∧ AllT2 w vs fs
  | _, _ => False
theorem allT2_keep {w w' : World} (h : KeepQ w w') : ∀ {vs : List FnV} {fs : List FnM}, AllT2 w vs fs → AllT2 w' vs fs
  | [], [], _ => trivial
  | v :: vs, f :: fs, q => ⟨⟨deepF_keepQ h q.1.2 q.1.1, fnQ_keep h q.1.2⟩, allT2_keep h q.2⟩
  | [], _ :: _, q => q.elim
  | _ :: _, [], q => q.elim
theorem allT2_snoc {w : World} {v : FnV} {f : FnM} (hd : DeepF w v f) (ht : FnQ w v) : ∀ {vs : List FnV} {fs : List FnM}, AllT2 w vs fs → AllT2 w (vs ++ [v]) (fs ++ [f])
  | [], [], _ => ⟨⟨hd, ht⟩, trivial⟩
  | v :: vs, f :: fs, h => ⟨h.1, allT2_snoc hd ht h.2⟩
  | [], _ :: _, h => h.elim
  | _ :: _, [], h => h.elim
theorem allT2_F {w : World} : ∀ {vs : List FnV} {fs : List FnM}, AllT2 w vs fs → AllF w vs fs
  | [], [], _ => trivial
  | v :: vs, f :: fs, q => ⟨q.1.1, allT2_F q.2⟩
  | [], _ :: _, q => q.elim
  | _ :: _, [], q => q.elim
/-- A function that is being read. -/
structure FQ (w wr : World) (y : Nat) (p l c : Sl) (ps ls : List Int) (r : Int) (code : List In4) : Prop where
  b : Blk wr y [.slice p.a p.n p.c, .slice l.a l.n l.c, .int .i64 r, .slice c.a c.n c.c]
  t : tyB wr y = some RFUNQ
  bl : Below w.heap.size w wr
  rb : Blk wr w.heap.size [.slice none 0 0, .slice none 0 0, .int .i64 0, .slice none 0 0]
  rt : tyB wr w.heap.size = some RFUNQ
  yw : w.heap.size < y
  rp : ReadI wr (.slice p.a p.n p.c) ps
  sp : slOk wr INTT p.a p.n
  rl : ReadI wr (.slice l.a l.n l.c) ls
  sl : slOk wr INTT l.a l.n
  oc : OwnR inE RINSQ wr (y + 1) (.slice c.a c.n c.c) code
theorem fq_below {w wr w' : World} {y : Nat} {p l c : Sl} {ps ls : List Int} {r : Int} {code : List In4} (h : FQ w wr y p l c ps ls r code) (hb : Below wr.heap.size wr w') : FQ w w' y p l c ps ls r code :=
  have K := keepQ_below hb
  ⟨blk_below h.b hb, tyB_call h.t hb, b_call h.bl hb, blk_below h.rb hb, tyB_call h.rt hb, h.yw, readI_below h.rp hb, slOk_keep h.sp (keepE_ty K.1), readI_below h.rl hb, slOk_keep h.sl (keepE_ty K.1), ownR_below h.oc hb⟩
theorem fq_set {w wr : World} {y : Nat} {p l c : Sl} {ps ls : List Int} {r : Int} {code : List In4} (h : FQ w wr y p l c ps ls r code) (i : Nat) (u : Value) : KeepQ wr (wr.setCell ⟨y, i, none⟩ u) ∧ tyB (wr.setCell ⟨y, i, none⟩ u) y = some RFUNQ ∧ Below w.heap.size w (wr.setCell ⟨y, i, none⟩ u) ∧ Blk (wr.setCell ⟨y, i, none⟩ u) w.heap.size [.slice none 0 0, .slice none 0 0, .int .i64 0, .slice none 0 0] ∧ tyB (wr.setCell ⟨y, i, none⟩ u) w.heap.size = some RFUNQ ∧ OwnR inE RINSQ (wr.setCell ⟨y, i, none⟩ u) (y + 1) (.slice c.a c.n c.c) code := by
  have g := gb_set (gb_refl wr (some y)) i none u
  refine ⟨keepQ_grown g (fun j e => by injection e with e; subst e; exact ⟨RFUNQ, h.t, by decide, by decide⟩), by rw [tyB_set]; exact h.t, b_set h.bl (by have := h.yw; simp only; omega) _, blk_other h.rb (by have := h.yw; simp only; omega) _, by rw [tyB_set]; exact h.rt, ownR_kept h.oc g ?_⟩
  cases hv : (Value.slice c.a c.n c.c).ownBlock with
  | none => exact Or.inl rfl
  | some j => exact Or.inr (by intro e; injection e with e; have := (ownR_lt h.oc j hv).1; omega)
theorem fq_set0 {w wr : World} {y : Nat} {p l c : Sl} {ps ls : List Int} {r : Int} {code : List In4} (h : FQ w wr y p l c ps ls r code) {q : Sl} {qs : List Int} (hr : ReadI wr (.slice q.a q.n q.c) qs) (hs : slOk wr INTT q.a q.n) : FQ w (wr.setCell ⟨y, 0, none⟩ (.slice q.a q.n q.c)) y q l c qs ls r code := by
  obtain ⟨K, k1, k2, k3, k4, k5⟩ := fq_set h 0 (.slice q.a q.n q.c)
  exact ⟨blk_set h.b 0 _, k1, k2, k3, k4, h.yw, readI_keepQ K hs hr, slOk_keep hs (keepE_ty K.1), readI_keepQ K h.sl h.rl, slOk_keep h.sl (keepE_ty K.1), k5⟩
theorem fq_set1 {w wr : World} {y : Nat} {p l c : Sl} {ps ls : List Int} {r : Int} {code : List In4} (h : FQ w wr y p l c ps ls r code) {q : Sl} {qs : List Int} (hr : ReadI wr (.slice q.a q.n q.c) qs) (hs : slOk wr INTT q.a q.n) : FQ w (wr.setCell ⟨y, 1, none⟩ (.slice q.a q.n q.c)) y p q c ps qs r code := by
  obtain ⟨K, k1, k2, k3, k4, k5⟩ := fq_set h 1 (.slice q.a q.n q.c)
  exact ⟨blk_set h.b 1 _, k1, k2, k3, k4, h.yw, readI_keepQ K h.sp h.rp, slOk_keep h.sp (keepE_ty K.1), readI_keepQ K hs hr, slOk_keep hs (keepE_ty K.1), k5⟩
theorem fq_set2 {w wr : World} {y : Nat} {p l c : Sl} {ps ls : List Int} {r : Int} {code : List In4} (h : FQ w wr y p l c ps ls r code) (z : Int) : FQ w (wr.setCell ⟨y, 2, none⟩ (.int .i64 z)) y p l c ps ls z code := by
  obtain ⟨K, k1, k2, k3, k4, k5⟩ := fq_set h 2 (.int .i64 z)
  exact ⟨blk_set h.b 2 _, k1, k2, k3, k4, h.yw, readI_keepQ K h.sp h.rp, slOk_keep h.sp (keepE_ty K.1), readI_keepQ K h.sl h.rl, slOk_keep h.sl (keepE_ty K.1), k5⟩
def FunEndQ (n : Nat) (R : Option (FnM × List Int)) (w : World) (e : Ending) (w' : World) : Prop := match R with
  | none => ∃ v : FnV, e = .returned (.tuple #[aggF v, .int .i64 (-1)]) ∧ Below w.heap.size w w'
  | some (f, r) => ∃ v : FnV, e = .returned (.tuple #[aggF v, .int .i64 ((n : Int) - r.length)]) ∧ (DeepF w' v f ∧ FnQ w' v) ∧ Below w.heap.size w w'
theorem funEndQ_none {n : Nat} {R : Option (FnM × List Int)} {w : World} {e : Ending} {w' : World} (h : FunEndQ n R w e w') (hR : R = none) : ∃ v : FnV, e = .returned (.tuple #[aggF v, .int .i64 (-1)]) ∧ Below w.heap.size w w' := by subst hR; exact h
theorem funEndQ_some {n : Nat} {R : Option (FnM × List Int)} {w : World} {e : Ending} {w' : World} {f : FnM} {r : List Int} (h : FunEndQ n R w e w') (hR : R = some (f, r)) : ∃ v : FnV, e = .returned (.tuple #[aggF v, .int .i64 ((n : Int) - r.length)]) ∧ (DeepF w' v f ∧ FnQ w' v) ∧ Below w.heap.size w w' := by subst hR; exact h
theorem funEndQ_none' {n : Nat} {R : Option (FnM × List Int)} {w : World} {e : Ending} {w' : World} (hR : R = none) (h : ∃ v : FnV, e = .returned (.tuple #[aggF v, .int .i64 (-1)]) ∧ Below w.heap.size w w') : FunEndQ n R w e w' := by subst hR; exact h
theorem funEndQ_some' {n : Nat} {R : Option (FnM × List Int)} {w : World} {e : Ending} {w' : World} {f : FnM} {r : List Int} (hR : R = some (f, r)) (h : ∃ v : FnV, e = .returned (.tuple #[aggF v, .int .i64 ((n : Int) - r.length)]) ∧ (DeepF w' v f ∧ FnQ w' v) ∧ Below w.heap.size w w') : FunEndQ n R w e w' := by subst hR; exact h
/-- What is left lies behind. -/
theorem rdLst_sfx {xs l r : List Int} {k : Nat} (h : rdLst (xs.drop k) = some (l, r)) (hb : IsBytes xs) : ∃ k', k ≤ k' ∧ k' ≤ xs.length ∧ r = xs.drop k' ∧ (xs.length : Int) - r.length = k' := by
  have e := rdLst_back h (isBytes_drop hb k)
  have hl : (lstB l).length + r.length = xs.length - k := by rw [← List.length_append, e, List.length_drop]
  have hl2 := lstB_length l
  refine ⟨k + (lstB l).length, by omega, by omega, ?_, by omega⟩
  rw [← List.drop_drop, ← e, List.drop_left]
/-- The end: what f holds is what is handed back. -/
theorem fq_ret {w wr wF : World} {y : Nat} {p l c : Sl} {ps ls : List Int} {r : Int} {code : List In4} (h : FQ w wr y p l c ps ls r code) (hF : wF = (((wr.setCell ⟨w.heap.size, 0, none⟩ (.slice p.a p.n p.c)).setCell ⟨w.heap.size, 1, none⟩ (.slice l.a l.n l.c)).setCell ⟨w.heap.size, 2, none⟩ (.int .i64 r)).setCell ⟨w.heap.size, 3, none⟩ (.slice c.a c.n c.c)) :
    Blk wF w.heap.size [.slice p.a p.n p.c, .slice l.a l.n l.c, .int .i64 r, .slice c.a c.n c.c] ∧ (DeepF wF ⟨p, l, r, c⟩ ⟨ps, ls, r, code⟩ ∧ FnQ wF ⟨p, l, r, c⟩) ∧ Below w.heap.size w wF := by
  subst hF
  have g := gb_set (gb_set (gb_set (gb_set (gb_refl wr (some w.heap.size)) 0 none (.slice p.a p.n p.c)) 1 none (.slice l.a l.n l.c)) 2 none (.int .i64 r)) 3 none (.slice c.a c.n c.c)
  have K : KeepQ wr _ := keepQ_grown g (fun j e => by injection e with e; subst e; exact ⟨RFUNQ, h.rt, by decide, by decide⟩)
  refine ⟨blk_set (blk_set (blk_set (blk_set h.rb 0 _) 1 _) 2 _) 3 _, ⟨⟨readI_keepQ K h.sp h.rp, readI_keepQ K h.sl h.rl, rfl, ?_⟩, slOk_keep h.sp (keepE_ty K.1), slOk_keep h.sl (keepE_ty K.1), slOk_keep (ownR_slOk h.oc) (keepE_ty K.2)⟩, b_grown h.bl g (Nat.le_refl _)⟩
  exact readR_apart (ownR_read h.oc) (ownR_slOk h.oc) K.2.1 (fun k hk => K.2.2 k hk)
theorem qnum_at (u : Value) (xs : List Int) (t : Int) (k : Nat) (x : Int) (w : World) (ht : t = k) (h : ReadB w u xs) (hk : k < xs.length) (hx : xs.getD k 0 = x) (hb : 0 ≤ x ∧ x < 256) : Calls Try.prog 58 #[u, .int .i64 t] w fun e w' => e = .returned (.tuple #[.int .i64 x, .bool true]) ∧ w = w' := by
  subst ht; exact qnum_some u xs k x w h hk hx hb
theorem fq_append {w wr w' : World} {y : Nat} {p l c q : Sl} {ps ls : List Int} {r : Int} {code code' : List In4} (h : FQ w wr y p l c ps ls r code) (hg : wr.grownBy w' (Value.slice c.a c.n c.c).ownBlock) (own : OwnR inE RINSQ w' (y + 1) (.slice q.a q.n q.c) code') : FQ w (w'.setCell ⟨y, 3, none⟩ (.slice q.a q.n q.c)) y p l q ps ls r code' := by
  have hlt := ownR_lt h.oc
  have hty := ownR_ty h.oc
  have hne1 : some y ≠ (Value.slice c.a c.n c.c).ownBlock := fun e => by have := (hlt y e.symm).1; omega
  have hne2 : some w.heap.size ≠ (Value.slice c.a c.n c.c).ownBlock := fun e => by have := (hlt _ e.symm).1; have := h.yw; omega
  have K1 : KeepE INTT wr w' := keepE_grown hg (fun j e => ⟨RINSQ, hty j e, by decide⟩)
  have T1 := tyB_grown h.t hg hne1
  have K : KeepE INTT wr (w'.setCell ⟨y, 3, none⟩ (.slice q.a q.n q.c)) := keepE_trans K1 (keepE_grown (gb_set (gb_refl w' (some y)) 3 none _) (fun j e => by injection e with e; subst e; exact ⟨RFUNQ, T1, by decide⟩))
  have rk : ∀ {a : Option Addr} {n cap : Nat} {xs : List Int}, slOk wr INTT a n → ReadI wr (.slice a n cap) xs → ReadI (w'.setCell ⟨y, 3, none⟩ (.slice q.a q.n q.c)) (.slice a n cap) xs := fun ho hr => readR_I (readR_apart (readI_R hr) ho K.1 (fun k hk => K.2 k hk))
  refine ⟨blk_set (blk_grown h.b hg hne1) 3 _, by rw [tyB_set]; exact T1, b_set (b_gr0 h.bl hg (fun j e => by have := (hlt j e).1; have := h.yw; omega)) (by have := h.yw; simp only; omega) _, blk_other (blk_grown h.rb hg hne2) (by have := h.yw; simp only; omega) _, by rw [tyB_set]; exact tyB_grown h.rt hg hne2, h.yw, rk h.sp h.rp, slOk_keep h.sp (keepE_ty K), rk h.sl h.rl, slOk_keep h.sl (keepE_ty K), ownR_kept own (gb_set (gb_refl w' (some y)) 3 none _) ?_⟩
  cases hv : (Value.slice q.a q.n q.c).ownBlock with
  | none => exact Or.inl rfl
  | some j => exact Or.inr (by intro e; injection e with e; have := (ownR_lt own j hv).1; omega)
set_option maxRecDepth 100000 in
set_option maxHeartbeats 8000000 in
theorem qfunc_any (u : Value) (xs : List Int) (k : Nat) (w : World) (h : ReadB w u xs) (hb : IsBytes xs) (hk : k ≤ xs.length) (hl : xs.length ≤ 274877906944) : Calls Try.prog 59 #[u, .int .i64 k] w (FunEndQ xs.length (rdFunc (xs.drop k)) w) := by
  have H : Hid (∀ W, Below w.heap.size w W → ReadB W u xs) := fun W hb => readB_below h hb
  have HL := Lib.hid hl
  have HB := Lib.hid hb
  have k0 : (0 : Int) ≤ k := by omega
  have hlm : (xs.length : Int) ≤ 274877906944 := by omega
  have hkm : (k : Int) ≤ xs.length := by omega
  have HK := Lib.hid hk
  have HF1 : Hid (FQ w ((w.alloc (.cells #[.slice none 0 0, .slice none 0 0, .int .i64 0, .slice none 0 0] RFUNQ)).alloc (.cells #[.slice none 0 0, .slice none 0 0, .int .i64 0, .slice none 0 0] RFUNQ)) (w.heap.size + 1) ⟨none, 0, 0⟩ ⟨none, 0, 0⟩ ⟨none, 0, 0⟩ [] [] 0 []) :=
    ⟨blk_new2 (by simp), tyB_new2 (by simp), b_alloc (b_alloc (Below.refl _ _) _) _, blk_alloc (blk_new _ _ _) _, tyB_alloc (tyB_new _ _ _) _, by omega, readI_nil _, Or.inl rfl, readI_nil _, Or.inl rfl, ownR_nil _ _⟩
  clear h hb hl hk
  go_enter Try.func59, Try.ntmps59
  go_upto_region 2 with fail
  refine wp_named ?_
  intro W1 hW1
  have F1 : FQ w W1 (w.heap.size + 1) ⟨none, 0, 0⟩ ⟨none, 0, 0⟩ ⟨none, 0, 0⟩ [] [] 0 [] := by rw [hW1]; exact HF1.out
  obtain ⟨y, hy⟩ : ∃ y, y = w.heap.size + 1 := ⟨_, rfl⟩
  rw [← hy] at F1 ⊢
  clear hW1 hy HF1
  go_wp2_with fail
  refine (qnums_any u xs k _ (H.out _ F1.bl) HB.out HK.out HL.out).mono ?_
  intro e w2 h2
  cases hR1 : rdLst (xs.drop k) with
  | none =>
    obtain ⟨rfl, hb2⟩ := numsEnd_none h2 hR1
    have F2 := fq_below F1 hb2
    have HN := Lib.hid (rdFunc_1 hR1)
    obtain ⟨c0, c1, c2, c3, cf⟩ := blk4 F2.b
    have F2' := fq_set0 (q := ⟨none, 0, 0⟩) F2 (readI_nil _) (Or.inl rfl)
    have HF2 := Lib.hid F2'
    clear h2 hR1 hb2 F1 F2 F2'
    go_upto_region 3 with fail
    refine wp_named ?_
    intro W2 hW2
    have F3 : FQ w W2 y ⟨none, 0, 0⟩ ⟨none, 0, 0⟩ ⟨none, 0, 0⟩ [] [] 0 [] := by rw [hW2]; exact HF2.out
    clear hW2 c0 c1 c2 c3 cf HF2
    go_wp2_with fail
    refine (qnums_neg u xs (-1) _ (H.out _ F3.bl) (by decide)).mono ?_
    rintro e w3 ⟨rfl, hb3⟩
    have F4 := fq_below F3 hb3
    obtain ⟨c0, c1, c2, c3, cf⟩ := blk4 F4.b
    have F4' := fq_set1 (q := ⟨none, 0, 0⟩) F4 (readI_nil _) (Or.inl rfl)
    have HF4 := Lib.hid F4'
    clear hb3 F3 F4 F4'
    go_upto_region 4 with fail
    refine wp_named ?_
    intro W4 hW4
    have F5 : FQ w W4 y ⟨none, 0, 0⟩ ⟨none, 0, 0⟩ ⟨none, 0, 0⟩ [] [] 0 [] := by rw [hW4]; exact HF4.out
    clear hW4 c0 c1 c2 c3 cf HF4
    have h5 := H.out _ F5.bl
    obtain ⟨c0, c1, c2, c3, cf⟩ := blk4 F5.b
    obtain ⟨d0, d1, d2, d3, df⟩ := blk4 F5.rb
    have hyw := F5.yw
    have HF5 := Lib.hid F5
    have hlw := F5.rb.1
    have hly := F5.b.1
    clear F5
    go_wp2_with fail
    refine (qnum_none u xs (-1) _ h5 (Or.inl (by decide))).mono ?_
    rintro e w5 ⟨rfl, rfl⟩
    go_wp2_with fail
    refine (qnum_any u xs 0 _ h5 HB.out).mono ?_
    rintro e w5 ⟨nv, nb, rfl, rfl⟩
    clear h5
    go_wp2_with fail
    refine post_named ?_
    intro wF hwF
    obtain ⟨BF, _, FB⟩ := fq_ret HF5.out hwF
    clear hwF
    obtain ⟨c0, c1, c2, c3, _⟩ := blk4 BF
    refine bodyPost_ret (v := .tuple #[aggF ⟨⟨none, 0, 0⟩, ⟨none, 0, 0⟩, 0, ⟨none, 0, 0⟩⟩, .int .i64 (-1)]) (by simp [results, Try.results59, go_sem, c0, c1, c2, c3]; rfl) rfl ?_
    exact funEndQ_none' HN.out ⟨_, rfl, FB⟩
  | some p1 =>
    obtain ⟨ps, b1⟩ := p1
    obtain ⟨v2, rfl, ho2, hb2⟩ := numsEnd_some h2 hR1
    obtain ⟨k1, hk1, hk1', rfl, he1⟩ := rdLst_sfx hR1 HB.out
    rw [he1]
    obtain ⟨pa, pc, rfl, _⟩ := readR_len (ownR_read ho2)
    have F2 := fq_below F1 hb2
    obtain ⟨c0, c1, c2, c3, cf⟩ := blk4 F2.b
    have F2' := fq_set0 (q := ⟨pa, ps.length, pc⟩) F2 (readR_I (ownR_read ho2)) (ownR_slOk ho2)
    have HF2 := Lib.hid F2'
    have HR1 := Lib.hid hR1
    clear h2 hR1 hb2 F1 F2 F2' ho2 he1
    go_upto_region 3 with fail
    refine wp_named ?_
    intro W2 hW2
    have F3 : FQ w W2 y ⟨pa, ps.length, pc⟩ ⟨none, 0, 0⟩ ⟨none, 0, 0⟩ ps [] 0 [] := by rw [hW2]; exact HF2.out
    clear hW2 c0 c1 c2 c3 cf HF2
    go_wp2_with fail
    refine (qnums_any u xs k1 _ (H.out _ F3.bl) HB.out hk1' HL.out).mono ?_
    intro e w3 h3
    cases hR2 : rdLst (xs.drop k1) with
    | none =>
      obtain ⟨rfl, hb3⟩ := numsEnd_none h3 hR2
      have HN := Lib.hid (rdFunc_2 HR1.out hR2)
      have F4 := fq_below F3 hb3
      obtain ⟨c0, c1, c2, c3, cf⟩ := blk4 F4.b
      have F4' := fq_set1 (q := ⟨none, 0, 0⟩) F4 (readI_nil _) (Or.inl rfl)
      have HF4 := Lib.hid F4'
      clear h3 hR2 hb3 F3 F4 F4'
      go_upto_region 4 with fail
      refine wp_named ?_
      intro W4 hW4
      have F5 : FQ w W4 y ⟨pa, ps.length, pc⟩ ⟨none, 0, 0⟩ ⟨none, 0, 0⟩ ps [] 0 [] := by rw [hW4]; exact HF4.out
      clear hW4 c0 c1 c2 c3 cf HF4
      have h5 := H.out _ F5.bl
      obtain ⟨c0, c1, c2, c3, cf⟩ := blk4 F5.b
      obtain ⟨d0, d1, d2, d3, df⟩ := blk4 F5.rb
      have hyw := F5.yw
      have hlw := F5.rb.1
      have hly := F5.b.1
      have HF5 := Lib.hid F5
      clear F5
      go_wp2_with fail
      refine (qnum_none u xs (-1) _ h5 (Or.inl (by decide))).mono ?_
      rintro e w5 ⟨rfl, rfl⟩
      go_wp2_with fail
      refine (qnum_any u xs 0 _ h5 HB.out).mono ?_
      rintro e w5 ⟨nv, nb, rfl, rfl⟩
      clear h5
      go_wp2_with fail
      refine post_named ?_
      intro wF hwF
      obtain ⟨BF, _, FB⟩ := fq_ret HF5.out hwF
      clear hwF
      obtain ⟨e0, e1, e2, e3, _⟩ := blk4 BF
      refine bodyPost_ret (v := .tuple #[aggF ⟨⟨pa, ps.length, pc⟩, ⟨none, 0, 0⟩, 0, ⟨none, 0, 0⟩⟩, .int .i64 (-1)]) (by simp [results, Try.results59, go_sem, e0, e1, e2, e3]; rfl) rfl ?_
      exact funEndQ_none' HN.out ⟨_, rfl, FB⟩
    | some p2 =>
      obtain ⟨ls, b2⟩ := p2
      obtain ⟨v3, rfl, ho3, hb3⟩ := numsEnd_some h3 hR2
      obtain ⟨k2, hk2, hk2', rfl, he2⟩ := rdLst_sfx hR2 HB.out
      rw [he2]
      obtain ⟨la, lc, rfl, _⟩ := readR_len (ownR_read ho3)
      have F4 := fq_below F3 hb3
      obtain ⟨c0, c1, c2, c3, cf⟩ := blk4 F4.b
      have F4' := fq_set1 (q := ⟨la, ls.length, lc⟩) F4 (readR_I (ownR_read ho3)) (ownR_slOk ho3)
      have HF4 := Lib.hid F4'
      have HR2 := Lib.hid hR2
      clear h3 hR2 hb3 F3 F4 F4' ho3 he2
      go_upto_region 4 with fail
      refine wp_named ?_
      intro W4 hW4
      have F5 : FQ w W4 y ⟨pa, ps.length, pc⟩ ⟨la, ls.length, lc⟩ ⟨none, 0, 0⟩ ps ls 0 [] := by rw [hW4]; exact HF4.out
      clear hW4 c0 c1 c2 c3 cf HF4
      have h5 := H.out _ F5.bl
      obtain ⟨c0, c1, c2, c3, cf⟩ := blk4 F5.b
      obtain ⟨d0, d1, d2, d3, df⟩ := blk4 F5.rb
      have hyw := F5.yw
      have hlw := F5.rb.1
      have hly := F5.b.1
      have HF5 := Lib.hid F5
      clear F5
      have hk20 : (0 : Int) ≤ k2 := by omega
      have hk2m : (k2 : Int) ≤ xs.length := by omega
      rcases Nat.lt_or_ge k2 xs.length with q2 | q2
      rotate_left
      · have hd2 : xs.drop k2 = [] := List.drop_of_length_le q2
        have HN := Lib.hid (rdFunc_3 HR1.out (by rw [HR2.out, hd2]))
        clear hd2
        go_wp2_with fail
        refine (qnum_none u xs k2 _ h5 (Or.inr (by omega))).mono ?_
        rintro e w5 ⟨rfl, rfl⟩
        go_wp2_with fail
        refine (qnum_none u xs _ _ h5 (Or.inr (by omega))).mono ?_
        rintro e w5 ⟨rfl, rfl⟩
        clear h5
        go_wp2_with fail
        refine post_named ?_
        intro wF hwF
        obtain ⟨BF, _, FB⟩ := fq_ret HF5.out hwF
        clear hwF
        obtain ⟨e0, e1, e2, e3, _⟩ := blk4 BF
        refine bodyPost_ret (v := .tuple #[aggF ⟨⟨pa, ps.length, pc⟩, ⟨la, ls.length, lc⟩, 0, ⟨none, 0, 0⟩⟩, .int .i64 (-1)]) (by simp [results, Try.results59, go_sem, e0, e1, e2, e3]; rfl) rfl ?_
        exact funEndQ_none' HN.out ⟨_, rfl, FB⟩
      have hd2 : xs.drop k2 = xs[k2] :: xs.drop (k2 + 1) := List.drop_eq_getElem_cons q2
      have hx2 := HB.out xs[k2] (List.getElem_mem q2)
      have hg2 : xs.getD k2 0 = xs[k2] := by rw [List.getD_eq_getElem?_getD, List.getElem?_eq_getElem q2]; rfl
      have HG2 := Lib.hid hg2
      have HR3 : Hid (rdLst (xs.drop k1) = some (ls, xs[k2] :: xs.drop (k2 + 1))) := by show _ = _; rw [HR2.out, hd2]
      clear hd2 hg2
      generalize xs[k2] = r at *
      rcases Nat.lt_or_ge (k2 + 1) xs.length with q3 | q3
      rotate_left
      · have hd3 : xs.drop (k2 + 1) = [] := List.drop_of_length_le q3
        have HN := Lib.hid (rdFunc_4 HR1.out HR3.out (by rw [hd3]; rfl))
        clear hd3
        go_wp2_with fail
        refine (qnum_some u xs k2 r _ h5 q2 HG2.out hx2).mono ?_
        rintro e w5 ⟨rfl, rfl⟩
        go_wp2_with fail
        refine (qnum_none u xs _ _ h5 (Or.inr (by omega))).mono ?_
        rintro e w5 ⟨rfl, rfl⟩
        clear h5
        go_wp2_with fail
        refine post_named ?_
        intro wF hwF
        obtain ⟨BF, _, FB⟩ := fq_ret HF5.out hwF
        clear hwF
        obtain ⟨e0, e1, e2, e3, _⟩ := blk4 BF
        refine bodyPost_ret (v := .tuple #[aggF ⟨⟨pa, ps.length, pc⟩, ⟨la, ls.length, lc⟩, 0, ⟨none, 0, 0⟩⟩, .int .i64 (-1)]) (by simp [results, Try.results59, go_sem, e0, e1, e2, e3]; rfl) rfl ?_
        exact funEndQ_none' HN.out ⟨_, rfl, FB⟩
      have hd3 : xs.drop (k2 + 1) = xs[k2 + 1] :: xs.drop (k2 + 1 + 1) := List.drop_eq_getElem_cons q3
      have hx3 := HB.out xs[k2 + 1] (List.getElem_mem q3)
      have hg3 : xs.getD (k2 + 1) 0 = xs[k2 + 1] := by rw [List.getD_eq_getElem?_getD, List.getElem?_eq_getElem q3]; rfl
      have HG3 := Lib.hid hg3
      have HD3 := Lib.hid hd3
      clear hd3 hg3
      generalize xs[k2 + 1] = x3 at *
      obtain ⟨N, rfl⟩ : ∃ N : Nat, x3 = N := ⟨x3.toNat, by omega⟩
      have hN : (N : Int) < 256 := hx3.2
      have HRC : Hid (rdCodes (xs.drop (k2 + 1)) = mapC [] (rdCode (N - 0) (xs.drop (k2 + 2)))) := by
        show _ = _
        rw [HD3.out]
        have e : rdCodes ((N : Int) :: xs.drop (k2 + 1 + 1)) = rdCode N (xs.drop (k2 + 2)) := by unfold rdCodes; simp
        rw [e, Nat.sub_zero]
        cases rdCode N (xs.drop (k2 + 2)) with
        | none => rfl
        | some p => rfl
      have hxlen : 0 < xs.length := by omega
      obtain ⟨b, o, cap, rfl, r1, r2, r3, r4⟩ := readB_pos (H.out w (Below.refl _ _)) hxlen
      clear r4
      have hcm := cap_le r2
      go_wp2_with fail
      refine (qnum_some _ xs k2 r _ h5 q2 HG2.out hx2).mono ?_
      rintro e w5 ⟨rfl, rfl⟩
      go_wp2_with fail
      refine (qnum_at _ xs _ (k2 + 1) N _ (by omega) h5 q3 HG3.out hx3).mono ?_
      rintro e w5 ⟨rfl, rfl⟩
      have HF6 := Lib.hid (fq_set2 HF5.out r)
      clear h5 hx2 hx3
      go_upto_region 10 with fail
      refine wp_named ?_
      intro W6 hW6
      have F6 : FQ w W6 y ⟨pa, ps.length, pc⟩ ⟨la, ls.length, lc⟩ ⟨none, 0, 0⟩ ps ls r [] := by rw [hW6]; exact HF6.out
      have HF7 := Lib.hid F6
      clear hW6 F6 HF6 HF5 c0 c1 c2 c3 cf d0 d1 d2 d3 df
      go_wp2_with fail
      go_loopw [1, 11] (fun t i wr => ∃ j : Nat, j ≤ N ∧ i = .int .i64 j ∧ ∃ (ti : Int) (k' : Nat) (done : List In4) (c : Sl), t = .int .i64 ti ∧ Hid (ti = k') ∧ Hid (k' ≤ xs.length) ∧ Hid (rdCodes (xs.drop (k2 + 1)) = mapC done (rdCode (N - j) (xs.drop k'))) ∧ Hid (done.length = j) ∧ Hid (FQ w wr y ⟨pa, ps.length, pc⟩ ⟨la, ls.length, lc⟩ c ps ls r done)) (fun _ i _ => N - (intOf i).toNat)
      case atStart => exact ⟨0, Nat.zero_le _, rfl, _, k2 + 2, [], ⟨none, 0, 0⟩, rfl, (by show _ = _; omega), (by show _ ≤ _; omega), HRC.out, rfl, HF7.out⟩
      case round =>
        obtain ⟨j, hj, rfl, ti, k', done, cs, rfl, hti, hk', hec, hdl, hF⟩ := hrel
        obtain rfl : ti = k' := hti.out
        have j0 : (0 : Int) ≤ j := by omega
        have hk'0 : (0 : Int) ≤ k' := by omega
        have hk'm : (k' : Int) ≤ xs.length := by have := hk'.out; omega
        have hk'n : k' ≤ xs.length := hk'.out
        have hk'c : (k' : Int) ≤ cap := by omega
        have hlm' : (xs.length : Int) ≤ cap := by omega
        obtain ⟨ca, cn, cc⟩ := cs
        have F8 := hF.out
        obtain ⟨c0, c1, c2, c3, cf⟩ := blk4 F8.b
        obtain ⟨d0, d1, d2, d3, df⟩ := blk4 F8.rb
        have hyw := F8.yw
        have hlw := F8.rb.1
        have hly := F8.b.1
        have HF8 := Lib.hid F8
        have hrdB := H.out _ F8.bl
        clear F8
        by_cases hlt : j < N
        · have j1 : (j : Int) < N := by omega
          have HE : Hid (rdCodes (xs.drop (k2 + 1)) = mapC done (rdCode ((N - (j + 1)) + 1) (xs.drop k'))) := by
            show _ = _
            have e := hec.out
            rw [show N - j = (N - (j + 1)) + 1 by omega] at e
            exact e
          have hfrom := readB_from hrdB hk'n
          rcases Bool.eq_false_or_eq_true (okR (xs.drop k')) with hok | hok
          · obtain ⟨z1, z2⟩ := okR_len hok
            rw [List.length_drop] at z2
            have hcap : ¬ cap = k' := by omega
            rw [if_neg hcap] at hfrom
            have HE2 : Hid (rdCodes (xs.drop (k2 + 1)) = mapC (done ++ [insR (xs.drop k')]) (rdCode (N - (j + 1)) ((xs.drop k').drop (szR (opR (xs.drop k')))))) := by show _ = _; rw [HE.out, rdCode_ok hok]
            have HOK := Lib.hid hok
            have HFR := Lib.hid hfrom
            have HRDB := Lib.hid hrdB
            clear hok hfrom hrdB
            go_wp2_with fail
            refine (rread_ok _ (xs.drop k') _ HFR.out (isBytes_drop HB.out k') (by have := HL.out; rw [List.length_drop]; omega) HOK.out).mono ?_
            rintro e w9 ⟨rfl, hb9⟩
            obtain ⟨iop, hiop⟩ : ∃ iop, iop = opR (xs.drop k') := ⟨_, rfl⟩
            obtain ⟨ix, hix⟩ : ∃ ix, ix = xR (xs.drop k') := ⟨_, rfl⟩
            obtain ⟨ia, hia⟩ : ∃ ia, ia = aR (xs.drop k') := ⟨_, rfl⟩
            obtain ⟨ib, hib⟩ : ∃ ib, ib = bR (xs.drop k') := ⟨_, rfl⟩
            obtain ⟨sz, hsz⟩ : ∃ sz, sz = szR (opR (xs.drop k')) := ⟨_, rfl⟩
            rw [← hsz, ← hiop, ← hix, ← hia, ← hib]
            have HI : Hid (insR (xs.drop k') = ⟨iop, ix, ia, ib⟩) := by show _ = _; unfold insR; rw [← hiop, ← hix, ← hia, ← hib]
            have hz1 : (1 : Int) ≤ sz := by omega
            have hz2 : (sz : Int) + k' ≤ xs.length := by omega
            have ts : ((sz : Int) == 0) = false := by simp; omega
            have HSE := Lib.hid hsz
            have F9 := fq_below (fq_below hF.out hb9) (b_alloc (Below.refl _ _) (.cells #[.int .i64 iop, .int .u64 ix, .int .i64 ia, .int .i64 ib] RINSQ))
            have BX := Lib.hid (blk_new w9 #[.int .i64 iop, .int .u64 ix, .int .i64 ia, .int .i64 ib] RINSQ)
            clear hsz hiop hix hia hib hb9 c0 c1 c2 c3 cf d0 d1 d2 d3 df hlw hly
            unfold instV
            go_upto_region 16 with fail
            refine wp_named ?_
            intro W9 hW9
            have F9' : FQ w W9 y ⟨pa, ps.length, pc⟩ ⟨la, ls.length, lc⟩ ⟨ca, cn, cc⟩ ps ls r done := by rw [hW9]; exact F9
            have BX9 : Blk W9 w9.heap.size [.int .i64 iop, .int .u64 ix, .int .i64 ia, .int .i64 ib] := by rw [hW9]; exact BX.out
            clear hW9 F9 BX
            obtain ⟨x0, x1, x2, x3, xf⟩ := blk4 BX9
            clear BX9
            obtain ⟨c0, c1, c2, c3, cf⟩ := blk4 F9'.b
            obtain ⟨d0, d1, d2, d3, df⟩ := blk4 F9'.rb
            have hyw9 := F9'.yw
            have hlw := F9'.rb.1
            have hly := F9'.b.1
            have HF9 := Lib.hid F9'
            have HOA := Lib.hid (ownR_alloc F9'.oc (.cells #[.int .i64 iop, .int .u64 ix, .int .i64 ia, .int .i64 ib] RINSQ))
            have HFA := Lib.hid (fq_below F9' (b_alloc (Below.refl _ _) (.cells #[.int .i64 iop, .int .u64 ix, .int .i64 ia, .int .i64 ib] RINSQ)))
            have HRN := Lib.hid (show ReadR inE (W9.alloc (.cells #[.int .i64 iop, .int .u64 ix, .int .i64 ia, .int .i64 ib] RINSQ)) (.slice (some ⟨W9.heap.size, 0, none⟩) 1 1) [⟨iop, ix, ia, ib⟩] from readR_new (c := inE) W9 RINSQ ⟨iop, ix, ia, ib⟩)
            have HDL : Hid (done.length ≤ 256) := by show _ ≤ _; have := hdl.out; omega
            have hne1 : some y ≠ (Value.slice ca cn cc).ownBlock := fun e => by have := (ownR_lt F9'.oc y e.symm).1; omega
            have HBK := Lib.hid F9'.b
            clear F9'
            go_upto_region 17 with (at_builtin; (refine appendR rowRIn rfl _ _ rfl (y + 1) (.slice ca cn cc) done rfl HOA.out _ [⟨iop, ix, ia, ib⟩] rfl HRN.out ?c1 ?c2 ?c3 ?_); (case c1 => (have := HDL.out; rw [List.length_singleton]; omega)); (case c2 => (have := HDL.out; rw [List.length_singleton]; unfold maxLen; omega)); (case c3 => (simp only [World.size_alloc]; omega)); intro v10 w10 own10 hg10; obtain ⟨C9, hC9⟩ : ∃ C9, C9 = done ++ [(⟨iop, ix, ia, ib⟩ : In4)] := ⟨_, rfl⟩; rw [← hC9] at own10; obtain ⟨g10, cap10, hv10, gg10, _⟩ := ownR_form own10 (by rw [hC9]; simp); obtain ⟨n10, hn10⟩ : ∃ n, n = C9.length := ⟨_, rfl⟩; rw [← hn10] at hv10; subst hv10; have HC9 := Lib.hid hC9; clear hC9 hn10; have HFP := Lib.hid (fq_append HFA.out hg10 (q := ⟨some ⟨g10, 0, none⟩, n10, cap10⟩) own10); have KB := blk_grown (blk_alloc HBK.out _) hg10 hne1; clear c0 c1 c2 c3 cf own10 hg10; obtain ⟨c0, c1, c2, c3, cf⟩ := blk4 KB; clear KB)
            refine wp_named ?_
            intro W11 hW11
            have F11 : FQ w W11 y ⟨pa, ps.length, pc⟩ ⟨la, ls.length, lc⟩ ⟨some ⟨g10, 0, none⟩, n10, cap10⟩ ps ls r C9 := by rw [hW11]; exact HFP.out
            have HF11 := Lib.hid F11
            clear hW11 F11 HFP c0 c1 c2 c3 cf d0 d1 d2 d3 df x0 x1 x2 x3 xf
            go_wp2_with fail
            go_roundw
            case rel => exact ⟨j + 1, by omega, by first | rfl | trivial | go_num, _, k' + sz, C9, ⟨some ⟨g10, 0, none⟩, n10, cap10⟩, rfl, (by show _ = _; omega), (by show _ ≤ _; omega), (by show _ = _; rw [HC9.out, ← HI.out, HE2.out, HSE.out, List.drop_drop]), (by show _ = _; rw [HC9.out, List.length_append, hdl.out]; rfl), HF11.out⟩
            case measure => simp [intOf]; omega
          · have HNC : Hid (rdCodes (xs.drop (k2 + 1)) = none) := by show _ = _; rw [HE.out, rdCode_no hok]; rfl
            have HN := Lib.hid (rdFunc_4 HR1.out HR3.out HNC.out)
            have HOK := Lib.hid hok
            have HFR := Lib.hid hfrom
            clear hok hfrom hrdB
            by_cases hcap : cap = k'
            · have hxk : xs.length = k' := by omega
              have e0 : xs.length - k' = 0 := by omega
              have e1 : cap - k' = 0 := by omega
              have HFR2 : Hid (ReadB wr (.slice (some ⟨b, o, none⟩) 0 0) (xs.drop k')) := by
                have q := HFR.out
                rw [if_pos hcap, e0, e1] at q; exact q
              have hcapI : (cap : Int) = k' := by omega
              clear e0 e1 HFR
              subst hcap
              go_wp2_with fail
              refine (rread_no _ (xs.drop cap) _ (by first | exact HFR2.out | (have q := HFR2.out; simpa [hxk] using q)) (isBytes_drop HB.out cap) HOK.out).mono ?_
              rintro e w9 ⟨rfl, hb9⟩
              have F9 := fq_below (fq_below hF.out hb9) (b_alloc (Below.refl _ _) (.cells #[.int .i64 0, .int .u64 0, .int .i64 0, .int .i64 0] RINSQ))
              clear hb9 c0 c1 c2 c3 cf d0 d1 d2 d3 df hlw hly
              unfold instV
              go_upto_region 15 with fail
              refine wp_named ?_
              intro W9 hW9
              have F9' : FQ w W9 y ⟨pa, ps.length, pc⟩ ⟨la, ls.length, lc⟩ ⟨ca, cn, cc⟩ ps ls r done := by rw [hW9]; exact F9
              clear hW9 F9
              obtain ⟨c0, c1, c2, c3, cf⟩ := blk4 F9'.b
              obtain ⟨d0, d1, d2, d3, df⟩ := blk4 F9'.rb
              have hyw9 := F9'.yw
              have hlw := F9'.rb.1
              have hly := F9'.b.1
              have HF9 := Lib.hid F9'
              clear F9'
              go_wp2_with fail
              refine post_named ?_
              intro wF hwF
              obtain ⟨BF, _, FB⟩ := fq_ret HF9.out hwF
              clear hwF
              obtain ⟨e0, e1, e2, e3, _⟩ := blk4 BF
              refine bodyPost_ret (v := .tuple #[aggF ⟨⟨pa, ps.length, pc⟩, ⟨la, ls.length, lc⟩, r, ⟨ca, cn, cc⟩⟩, .int .i64 (-1)]) (by simp [results, Try.results59, go_sem, e0, e1, e2, e3]; rfl) rfl ?_
              exact funEndQ_none' HN.out ⟨_, rfl, FB⟩
            · have HFR2 : Hid (ReadB wr (.slice (some ⟨b, o + k', none⟩) (xs.length - k') (cap - k')) (xs.drop k')) := by
                have q := HFR.out
                rw [if_neg hcap] at q; exact q
              clear HFR
              go_wp2_with fail
              refine (rread_no _ (xs.drop k') _ HFR2.out (isBytes_drop HB.out k') HOK.out).mono ?_
              rintro e w9 ⟨rfl, hb9⟩
              have F9 := fq_below (fq_below hF.out hb9) (b_alloc (Below.refl _ _) (.cells #[.int .i64 0, .int .u64 0, .int .i64 0, .int .i64 0] RINSQ))
              clear hb9 c0 c1 c2 c3 cf d0 d1 d2 d3 df hlw hly
              unfold instV
              go_upto_region 15 with fail
              refine wp_named ?_
              intro W9 hW9
              have F9' : FQ w W9 y ⟨pa, ps.length, pc⟩ ⟨la, ls.length, lc⟩ ⟨ca, cn, cc⟩ ps ls r done := by rw [hW9]; exact F9
              clear hW9 F9
              obtain ⟨c0, c1, c2, c3, cf⟩ := blk4 F9'.b
              obtain ⟨d0, d1, d2, d3, df⟩ := blk4 F9'.rb
              have hyw9 := F9'.yw
              have hlw := F9'.rb.1
              have hly := F9'.b.1
              have HF9 := Lib.hid F9'
              clear F9'
              go_wp2_with fail
              refine post_named ?_
              intro wF hwF
              obtain ⟨BF, _, FB⟩ := fq_ret HF9.out hwF
              clear hwF
              obtain ⟨e0, e1, e2, e3, _⟩ := blk4 BF
              refine bodyPost_ret (v := .tuple #[aggF ⟨⟨pa, ps.length, pc⟩, ⟨la, ls.length, lc⟩, r, ⟨ca, cn, cc⟩⟩, .int .i64 (-1)]) (by simp [results, Try.results59, go_sem, e0, e1, e2, e3]; rfl) rfl ?_
              exact funEndQ_none' HN.out ⟨_, rfl, FB⟩
        · have ej : j = N := by omega
          subst ej
          have HRC2 : Hid (rdCodes (xs.drop (k2 + 1)) = some (done, xs.drop k')) := by
            show _ = _
            rw [hec.out, Nat.sub_self]
            show mapC done (some ([], xs.drop k')) = _
            simp [mapC]
          have HFIN := Lib.hid (rdFunc_5 HR1.out HR3.out HRC2.out)
          have HKE : Hid ((xs.length : Int) - ((xs.drop k').length : Int) = k') := by show _ = _; rw [List.length_drop]; omega
          clear hrdB
          go_wp2_with fail
          refine post_named ?_
          intro wF hwF
          obtain ⟨BF, FD, FB⟩ := fq_ret HF8.out hwF
          clear hwF
          obtain ⟨e0, e1, e2, e3, _⟩ := blk4 BF
          refine bodyPost_ret (v := .tuple #[aggF ⟨⟨pa, ps.length, pc⟩, ⟨la, ls.length, lc⟩, r, ⟨ca, cn, cc⟩⟩, .int .i64 k']) (by simp [results, Try.results59, go_sem, e0, e1, e2, e3]; rfl) rfl ?_
          exact funEndQ_some' HFIN.out ⟨_, by rw [HKE.out], FD, FB⟩
end Go.Proofs.Ytdhkemnebppkhaa
