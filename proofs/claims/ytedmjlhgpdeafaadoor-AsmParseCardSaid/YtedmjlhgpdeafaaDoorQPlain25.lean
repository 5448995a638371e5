/- Layer 25's Plain: a program as the document's own. Conditions: the program reads as lists, and is not too great. -/
import Derived.Test.YtedmjlhgpdeafaaDoorQOurs25
import Derived.Test.YtedmjlhgpdeafaaDoorQMayR25
namespace Go.Proofs.YtedmjlhgpdeafaaDoor
open Go.RowKit
set_option linter.unusedVariables false
set_option linter.unusedSimpArgs false
attribute [local go_sem] over_cell over_frozen
def RFUNQ : TypeId := 60
def RPROQ : TypeId := 25
def RINSQ : TypeId := 42
theorem rowRIn : IsRow Tryd.prog 58 42 4 32 (.agg #[.int .i64 0, .int .u64 0, .int .i64 0, .int .i64 0]) := ⟨Tryd.underlying58, by kernel_rfl, by rfl⟩
/-- What is of a type stays. -/
def KeepE (E : TypeId) (w w' : World) : Prop := w.heap.size ≤ w'.heap.size ∧ ∀ k, tyB w k = some E → w'.heap[k]? = w.heap[k]?
theorem keepE_below {E : TypeId} {w w' : World} (hb : Below w.heap.size w w') : KeepE E w w' := ⟨hb.size, fun k hk => hb.block k (tyB_lt hk)⟩
theorem keepE_grown {E : TypeId} {w w' : World} {r : Option Nat} (hg : w.grownBy w' r) (h : ∀ j, r = some j → ∃ X, tyB w j = some X ∧ X ≠ E) : KeepE E w w' := ⟨hg.size, fun k hk => by
  refine hg.block k (tyB_lt hk) (fun e => ?_)
  obtain ⟨X, hX, h1⟩ := h k e.symm
  rw [hX] at hk; injection hk with h; exact h1 h⟩
theorem keepE_ty {E : TypeId} {w w' : World} (h : KeepE E w w') (k : Nat) (hk : tyB w k = some E) : tyB w' k = some E := by
  rw [tyB_block (h.2 k hk)]; exact hk
theorem keepE_trans {E : TypeId} {a b c : World} (h : KeepE E a b) (h' : KeepE E b c) : KeepE E a c := ⟨Nat.le_trans h.1 h'.1, fun k hk => by rw [h'.2 k (keepE_ty h k hk), h.2 k hk]⟩
/-- One that is made out of one that was there. -/
structure DeepQ (W w : World) (v : FnV) (f : FnM) : Prop where
  p : ReadI W v.p.v f.ps
  l : ReadI W v.l.v f.ls
  r : v.r = f.r
  c : ReadR inE w (.slice v.c.a v.c.n v.c.c) f.code
  s : slOk w RINSQ v.c.a v.c.n
theorem deepQ_keep {W w w' : World} {v : FnV} {f : FnM} (h : KeepE RINSQ w w') (hd : DeepQ W w v f) : DeepQ W w' v f := ⟨hd.p, hd.l, hd.r, readR_apart hd.c hd.s h.1 (fun k hk => h.2 k hk), slOk_keep hd.s (keepE_ty h)⟩
def AllQ (W w : World) : List FnV → List FnM → Prop
  | [], [] => True
  | v :: vs, f :: fs => DeepQ W w v f ∧ AllQ W w vs fs
  | _, _ => False
theorem allQ_keep {W w w' : World} (h : KeepE RINSQ w w') : ∀ {vs : List FnV} {fs : List FnM}, AllQ W w vs fs → AllQ W w' vs fs
  | [], [], _ => trivial
  | v :: vs, f :: fs, q => ⟨deepQ_keep h q.1, allQ_keep h q.2⟩
  | [], _ :: _, q => q.elim
  | _ :: _, [], q => q.elim
theorem allQ_snoc {W w : World} {v : FnV} {f : FnM} (hd : DeepQ W w v f) : ∀ {vs : List FnV} {fs : List FnM}, AllQ W w vs fs → AllQ W w (vs ++ [v]) (fs ++ [f])
  | [], [], _ => ⟨hd, trivial⟩
  | v :: vs, f :: fs, h => ⟨h.1, allQ_snoc hd h.2⟩
  | [], _ :: _, h => h.elim
  | _ :: _, [], h => h.elim
theorem allQ_len {W w : World} : ∀ {vs : List FnV} {fs : List FnM}, AllQ W w vs fs → vs.length = fs.length
  | [], [], _ => rfl
  | v :: vs, f :: fs, q => by simp [allQ_len q.2]
  | [], _ :: _, q => q.elim
  | _ :: _, [], q => q.elim
theorem allQ_F {W w : World} (hb : Below W.heap.size W w) : ∀ {vs : List FnV} {fs : List FnM}, AllQ W w vs fs → AllF w vs fs
  | [], [], _ => trivial
  | v :: vs, f :: fs, q => ⟨⟨readI_below q.1.p hb, readI_below q.1.l hb, q.1.r, q.1.c⟩, allQ_F hb q.2⟩
  | [], _ :: _, q => q.elim
  | _ :: _, [], q => q.elim
/-- What Plain's variable holds. -/
def PlSt (W0 W wr : World) (x : Nat) (u : Bool) (gl : Value) (m : Int) (fs : List FnM) : Prop := ∃ (v : Value) (L : List FnV), OwnR fnE RFUNQ wr (x + 1) v L ∧ AllQ W0 wr L fs ∧ Blk wr x [.bool u, gl, .int .i64 m, v] ∧ tyB wr x = some RPROQ ∧ Below W.heap.size W wr
theorem plSt_below {W0 W wr w' : World} {x : Nat} {u : Bool} {gl : Value} {m : Int} {fs : List FnM} (h : PlSt W0 W wr x u gl m fs) (hb : Below wr.heap.size wr w') : PlSt W0 W w' x u gl m fs := by
  obtain ⟨v, L, h1, h2, h3, h4, h5⟩ := h
  exact ⟨v, L, ownR_below h1 hb, allQ_keep (keepE_below hb) h2, blk_below h3 hb, tyB_call h4 hb, b_call h5 hb⟩
/-- A function that is being made. -/
def GSt (Wf wz : World) (y : Nat) (p l : Value) (r : Int) (code : List In4) : Prop := ∃ v : Value, OwnR inE RINSQ wz (y + 1) v code ∧ Blk wz y [p, l, .int .i64 r, v] ∧ tyB wz y = some RFUNQ ∧ Below Wf.heap.size Wf wz
set_option maxRecDepth 100000 in
set_option maxHeartbeats 8000000 in
theorem plain25_any (q : PrV) (P : PrM) (w : World) (h : ReadP w q P) (hs : SmallP P) : Calls Tryd.prog 20 #[aggP q] w fun e w' => ∃ q', e = .returned (aggP q') ∧ ReadP w' q' P ∧ Below w.heap.size w w' := by
  obtain ⟨u, ⟨ga, gn, gc⟩, m, ⟨fa, fn, fc⟩⟩ := q
  obtain ⟨pu, gl, pm, fs⟩ := P
  obtain ⟨hu, hg, hm, L, hL, hA⟩ := h
  simp only at hu hm
  subst hu; subst hm
  have hL : ReadR fnE w (.slice fa fn fc) L := hL
  obtain ⟨hf1, hf2, hf3⟩ := slr_cap hL
  subst hf3
  have hfm := cap_le hf2
  have HG := Lib.hid (show ReadI w (.slice ga gn gc) gl from hg)
  have HL := Lib.hid hL; have HA := Lib.hid hA
  have HFL := Lib.hid (allF_len hA)
  have HSM := Lib.hid hs
  clear hg hL hA hs hf2
  unfold aggP Sl.v
  simp only
  go_enter Tryd.func20, Tryd.ntmps20
  go_upto_region 1 with fail
  refine wp_named ?_
  intro W hW
  have BX : Blk W w.heap.size [.bool u, .slice ga gn gc, .int .i64 m, .slice fa L.length fc] := by rw [hW]; exact blk_alloc (blk_new _ _ _) _
  have BR : Blk W (w.heap.size + 1) [.bool false, .slice none 0 0, .int .i64 0, .slice none 0 0] := by rw [hW]; exact blk_new2 (by simp)
  have hBW : Below w.heap.size w W := by rw [hW]; exact b_alloc (b_alloc (Below.refl _ _) _) _
  have hWs : w.heap.size + 2 = W.heap.size := by rw [hW]; simp
  have BRT : tyB W (w.heap.size + 1) = some RPROQ := by rw [hW]; exact tyB_new2 (by simp)
  have HBRT := Lib.hid BRT
  have HBX := Lib.hid BX; have HBR := Lib.hid BR
  have HGW := Lib.hid (readI_below HG.out hBW)
  have HLW := Lib.hid (readR_below HL.out hBW)
  have HAW := Lib.hid (allF_below hBW HA.out)
  have HBW := Lib.hid hBW
  have HWS := Lib.hid hWs
  have lt0 : w.heap.size < W.heap.size := by omega
  obtain ⟨x0, x1, x2, x3, xf⟩ := blk4 BX
  have HP0 : Hid (PlSt w W (W.alloc (.cells #[.bool u, .slice ga gn gc, .int .i64 m, .slice none 0 0] RPROQ)) W.heap.size u (.slice ga gn gc) m []) := ⟨.slice none 0 0, [], ownR_nil _ _, trivial, blk_new _ _ _, tyB_new _ _ _, b_alloc (Below.refl _ _) _⟩
  clear hW BX BR BRT hBW hWs
  go_wp2_with fail
  go_loopw [19] (fun i wr => ∃ k : Nat, k ≤ L.length ∧ i = .int .i64 k ∧ Hid (PlSt w W wr W.heap.size u (.slice ga gn gc) m (fs.take k))) (fun i _ => L.length - (intOf i).toNat)
  case atStart => exact ⟨0, Nat.zero_le _, rfl, HP0.out⟩
  case round =>
    obtain ⟨k, hk, rfl, hp⟩ := hrel
    have k0 : (0 : Int) ≤ k := by omega
    obtain ⟨vv, LL, o1, o2, o3, o4, hbw⟩ := hp.out
    by_cases hlt : k < L.length
    · obtain ⟨bl, off, cp, e1, r1, r2, hbl, r4⟩ := readR_pos HLW.out (by omega)
      cases e1
      have k1 : (k : Int) < L.length := by omega
      have hcs := fn_cells r4 k hlt
      rw [← (bcell hbw).1 _ _ hbl, ← (bcell hbw).1 _ _ hbl, ← (bcell hbw).1 _ _ hbl, ← (bcell hbw).1 _ _ hbl] at hcs
      have kf : k < fs.length := by rw [← HFL.out]; exact hlt
      have DF := Lib.hid (allF_at HAW.out k hlt kf)
      have DF0 := Lib.hid (allF_at HA.out k hlt kf)
      have SF := Lib.hid (HSM.out.a _ (List.getElem_mem kf))
      have HSN := Lib.hid (List.take_succ_eq_append_getElem kf)
      have HF17 : Hid (fs.length ≤ 17) := HSM.out.f
      generalize fs[k] = f at *
      generalize L[k] = z at *
      obtain ⟨⟨pa, pn, pc⟩, ⟨la, ln, lc⟩, r, ⟨ca, cn, cc⟩⟩ := z
      obtain ⟨ps, ls, r', code⟩ := f
      simp only at hcs
      obtain ⟨d0, d1, d2, d3⟩ := hcs
      have er : r = r' := DF.out.r
      subst er
      have dc : ReadR inE W (.slice ca cn cc) code := DF.out.c
      obtain ⟨hc1, hc2, hc3⟩ := slr_cap dc
      subst hc3
      have hcm := cap_le hc2
      have hcl : code.length ≤ 100 := SF.out.c
      have DP : ReadI w (.slice pa pn pc) ps := DF0.out.p
      have DL : ReadI w (.slice la ln lc) ls := DF0.out.l
      have DC := Lib.hid dc
      have HHP := Lib.hid hp.out
      clear r4 dc hc2 o1 o2 o3 o4 x0 x1 x2 x3 xf hp
      have HB45 : Hid (Below W.heap.size W (wr.alloc (.cells #[.slice pa pn pc, .slice la ln lc, .int .i64 r, .slice ca code.length cc] FUNT))) := b_alloc hbw _
      go_upto_region 6 with fail
      refine wp_named ?_
      intro Wg hWg
      have hbg : Below wr.heap.size wr Wg := by rw [hWg]; exact b_alloc (b_alloc (Below.refl _ _) _) _
      have GS0 : GSt (wr.alloc (.cells #[.slice pa pn pc, .slice la ln lc, .int .i64 r, .slice ca code.length cc] FUNT)) Wg (wr.heap.size + 1) (.slice pa pn pc) (.slice la ln lc) r [] := by
        rw [hWg]; exact ⟨.slice none 0 0, ownR_nil _ _, blk_new2 (by simp), tyB_new2 (by simp), b_alloc (Below.refl _ _) _⟩
      have BF : Blk (wr.alloc (.cells #[.slice pa pn pc, .slice la ln lc, .int .i64 r, .slice ca code.length cc] FUNT)) wr.heap.size [.slice pa pn pc, .slice la ln lc, .int .i64 r, .slice ca code.length cc] := blk_new _ _ _
      obtain ⟨Wf, hWf⟩ : ∃ Wf, Wf = wr.alloc (.cells #[.slice pa pn pc, .slice la ln lc, .int .i64 r, .slice ca code.length cc] FUNT) := ⟨_, rfl⟩
      have hWfs : Wf.heap.size = wr.heap.size + 1 := by rw [hWf]; simp
      have PS : PlSt w W Wf W.heap.size u (.slice ga gn gc) m (fs.take k) := by rw [hWf]; exact plSt_below HHP.out (b_alloc (Below.refl _ _) _)
      rw [← hWf] at GS0 BF
      have HGS := Lib.hid GS0
      have HPS := Lib.hid PS
      have d3' : Wg.cell? ⟨wr.heap.size, 3, none⟩ = some (.slice ca code.length cc) := by
        obtain ⟨_, _, _, _, hb⟩ := GS0
        exact (blk4 (blk_below BF hb)).2.2.2.1
      obtain ⟨y, hy⟩ : ∃ y, y = wr.heap.size + 1 := ⟨_, rfl⟩
      rw [← hy] at HGS hWfs
      have HWF := Lib.hid hWfs
      have HWX : Hid (W.heap.size < Wf.heap.size) := by
        obtain ⟨_, _, _, _, hb, _⟩ := PS; exact hb.1
      clear hWg GS0 BF hWf PS d0 d1 d2 d3 hWfs
      have hty : Wg.heap.size = Wg.heap.size := rfl
      obtain ⟨W1, hW1⟩ : ∃ W1, W1 = wr := ⟨_, rfl⟩
      subst hW1
      rw [← hy]
      have HY := Lib.hid hy
      clear hy hty
      go_wp2_with fail
      go_loopw [33] (fun i wz => ∃ j : Nat, j ≤ code.length ∧ i = .int .i64 j ∧ Hid (GSt Wf wz y (.slice pa pn pc) (.slice la ln lc) r (code.take j))) (fun i _ => code.length - (intOf i).toNat)
      case atStart => exact ⟨0, Nat.zero_le _, rfl, HGS.out⟩
      case round =>
        obtain ⟨j, hj, rfl, hq⟩ := hrel
        obtain ⟨v0, hown, hblk, hty, hb⟩ := hq.out
        have j0 : (0 : Int) ≤ j := by omega
        have hyl := hblk.1
        have hbWz : Below W.heap.size W wr := by
          obtain ⟨_, _, _, _, _, _, hb2⟩ := HPS.out
          exact b_call hb2 hb
        by_cases hlt2 : j < code.length
        · obtain ⟨bl2, off2, cp2, e1, r12, r22, hbl2, r42⟩ := readR_pos DC.out (by omega)
          cases e1
          have j1 : (j : Int) < code.length := by omega
          have hcs := in_cells r42 j hlt2
          rw [← (bcell hbWz).1 _ _ hbl2, ← (bcell hbWz).1 _ _ hbl2, ← (bcell hbWz).1 _ _ hbl2, ← (bcell hbWz).1 _ _ hbl2] at hcs
          have HSN2 : Hid (code.take (j + 1) = code.take j ++ [code[j]]) := List.take_succ_eq_append_getElem hlt2
          generalize code[j] = ii at *
          obtain ⟨iop, ix, ia, ib⟩ := ii
          simp only at hcs
          obtain ⟨i0, i1, i2, i3⟩ := hcs
          have HB8 : Hid (Below wr.heap.size wr (wr.alloc (.cells #[.int .i64 iop, .int .u64 ix, .int .i64 ia, .int .i64 ib] INST))) := Lib.hid (b_alloc (Below.refl _ _) _)
          have HX8 : Hid (Blk (wr.alloc (.cells #[.int .i64 iop, .int .u64 ix, .int .i64 ia, .int .i64 ib] INST)) wr.heap.size [.int .i64 iop, .int .u64 ix, .int .i64 ia, .int .i64 ib]) := Lib.hid (blk_new _ _ _)
          have HOWN := Lib.hid hown; have HBLK := Lib.hid hblk; have HTY := Lib.hid hty
          have HBZ := Lib.hid hb
          clear r42 hown hblk hty hb hq
          go_upto_region 9 with fail
          refine wp_named ?_
          intro W8 hW8
          have hb8 : Below wr.heap.size wr W8 := by rw [hW8]; exact HB8.out
          have X8 : Blk W8 wr.heap.size [.int .i64 iop, .int .u64 ix, .int .i64 ia, .int .i64 ib] := by rw [hW8]; exact HX8.out
          have blk8 := blk_below HBLK.out hb8
          have own8 := ownR_below HOWN.out hb8
          have hown2 := ownR_lt own8
          have ty8 := tyB_call HTY.out hb8
          have hw8s := hb8.size
          have hx8l := X8.1
          have hBW8 := b_call HBZ.out hb8
          have hne1 : some y ≠ v0.ownBlock := fun e => by have := (hown2 _ e.symm).1; omega
          have HO8 := Lib.hid own8; have HK8 := Lib.hid blk8; have HX8' := Lib.hid X8
          have HS8 : Hid (∀ w', Blk w' y [.slice pa pn pc, .slice la ln lc, .int .i64 r, v0] → Blk w' wr.heap.size [.int .i64 iop, .int .u64 ix, .int .i64 ia, .int .i64 ib] → w'.cell? ⟨y, 3, none⟩ = some v0 ∧ w'.cell? ⟨wr.heap.size, 0, none⟩ = some (.int .i64 iop) ∧ w'.cell? ⟨wr.heap.size, 1, none⟩ = some (.int .u64 ix) ∧ w'.cell? ⟨wr.heap.size, 2, none⟩ = some (.int .i64 ia) ∧ w'.cell? ⟨wr.heap.size, 3, none⟩ = some (.int .i64 ib)) := Lib.hid (fun w' h1 h2 => by
            obtain ⟨_, _, _, a3, _⟩ := blk4 h1
            obtain ⟨b0, b1, b2, b3, _⟩ := blk4 h2
            exact ⟨a3, b0, b1, b2, b3⟩)
          have hne2 : some wr.heap.size ≠ v0.ownBlock := fun e => by have := ownR_lt HOWN.out _ e.symm; omega
          have hjl : (code.take j).length ≤ 100 := by simp; omega
          have HT8 := Lib.hid ty8; have HBW8 := Lib.hid hBW8
          have hfz8 := blk8.2.2
          have hyW : Wf.heap.size ≤ y := by have := HWF.out; omega
          clear hW8 X8 own8 blk8 ty8 hBW8 i0 i1 i2 i3
          have S8 := HS8.out _ (blk_drew HK8.out) (blk_drew HX8'.out)
          refine wp_region_E (S := (fun w' => w'.cell? ⟨y, 3, none⟩ = some v0 ∧ w'.cell? ⟨wr.heap.size, 0, none⟩ = some (.int .i64 iop) ∧ w'.cell? ⟨wr.heap.size, 1, none⟩ = some (.int .u64 ix) ∧ w'.cell? ⟨wr.heap.size, 2, none⟩ = some (.int .i64 ia) ∧ w'.cell? ⟨wr.heap.size, 3, none⟩ = some (.int .i64 ib))) 7 (by kernel_rfl) S8 (fun hHeld => ?_)
          clear S8
          (refine wpAnyE_take (n := 12) (i := 0) (v := ?_) rfl (by kernel_rfl) (by kernel_rfl) (by kernel_rfl) (by kernel_rfl) (by kernel_rfl) (fun _ _ _ h => h) (Or.inl ⟨by rfl, ?_⟩) hHeld ?_; rotate_left; (focus (intro w hSw; (try dsimp only at hSw); go_simp; try (with_reducible rfl))); (try simp only [Act.put, List.getElem_toArray, List.getElem_cons_succ, List.getElem_cons_zero, List.setIfInBounds_toArray, List.set_cons_zero, List.set_cons_succ]))
          (refine wpAnyE_take (n := 12) (i := 1) (v := ?_) rfl (by kernel_rfl) (by kernel_rfl) (by kernel_rfl) (by kernel_rfl) (by kernel_rfl) (fun _ _ _ h => h) (Or.inl ⟨by rfl, ?_⟩) hHeld ?_; rotate_left; (focus (intro w hSw; (try dsimp only at hSw); go_simp; try (with_reducible rfl))); (try simp only [Act.put, List.getElem_toArray, List.getElem_cons_succ, List.getElem_cons_zero, List.setIfInBounds_toArray, List.set_cons_zero, List.set_cons_succ]))
          (refine wpAnyE_take (n := 12) (i := 2) (v := ?_) rfl (by kernel_rfl) (by kernel_rfl) (by kernel_rfl) (by kernel_rfl) (by kernel_rfl) (fun _ _ _ h => h) (Or.inl ⟨by rfl, ?_⟩) hHeld ?_; rotate_left; (focus (intro w hSw; (try dsimp only at hSw); go_simp; try (with_reducible rfl))); (try simp only [Act.put, List.getElem_toArray, List.getElem_cons_succ, List.getElem_cons_zero, List.setIfInBounds_toArray, List.set_cons_zero, List.set_cons_succ]))
          refine wpAnyE_ready (rs := [3]) (by kernel_rfl) (by simp) (AllReadyE.cons rfl (fun K hK => ?_) AllReadyE.nil)
          go_simp
          refine (plain_any _ _ _ _ _).mono ?_
          rintro e w9 ⟨rfl, hb9⟩
          have K9 := blk_below (blk_drew HK8.out) hb9
          have X9 := blk_below (blk_drew HX8'.out) hb9
          have hs9 := hb9.size
          simp only [World.size_drew] at hs9
          have B9 : Below W8.heap.size W8 w9 := b_call (b_drew (Below.refl _ _)) hb9
          have O9 := ownR_below HO8.out B9
          have HK9 := Lib.hid K9; have HX9 := Lib.hid X9; have HB9 := Lib.hid B9; have HO9 := Lib.hid O9
          clear K9 X9 B9 O9 hb9
          refine hK.out _ _ (HS8.out _ HK9.out HX9.out) (fun hHeld => ?_)
          clear hK K
          (try simp only [Act.put, List.getElem_toArray, List.getElem_cons_succ, List.getElem_cons_zero, List.setIfInBounds_toArray, List.set_cons_zero, List.set_cons_succ])
          refine wpAnyE_ready (rs := [4]) (by kernel_rfl) (by simp) (AllReadyE.cons rfl (fun K hK => ?_) AllReadyE.nil)
          go_simp
          refine hK.out _ _ (HS8.out _ (blk_alloc HK9.out _) (blk_alloc HX9.out _)) (fun hHeld => ?_)
          clear hK K
          (try simp only [Act.put, List.getElem_toArray, List.getElem_cons_succ, List.getElem_cons_zero, List.setIfInBounds_toArray, List.set_cons_zero, List.set_cons_succ])
          refine wpAnyE_ready (rs := [5]) (by kernel_rfl) (by simp) (AllReadyE.cons rfl (fun K hK => ?_) AllReadyE.nil)
          refine step_appendR rowRIn (by rfl) _ _ (by rfl) (y + 1) v0 (code.take j) (by rfl) (ownR_alloc HO9.out _) _ [⟨iop, ix, ia, ib⟩] (by rfl) (readR_new (c := inE) w9 _ ⟨iop, ix, ia, ib⟩) (by rw [List.length_singleton]; omega) (by rw [List.length_singleton]; unfold maxLen; omega) (by rw [World.size_alloc]; omega) ?_
          intro v10 w10 own10 hg10
          obtain ⟨C9, hC9⟩ : ∃ C9, C9 = code.take j ++ [⟨iop, ix, ia, ib⟩] := ⟨_, rfl⟩
          rw [← hC9] at own10
          obtain ⟨g10, cap10, rfl, gg10, _⟩ := ownR_form own10 (by rw [hC9]; simp)
          have HC9 : Hid (code.take (j + 1) = C9) := by
            show _ = _
            rw [HSN2.out, hC9]
          clear hC9
          have KA := blk_grown (blk_alloc HK9.out _) hg10 hne1
          have XA := blk_grown (blk_alloc HX9.out _) hg10 hne2
          have TA : tyB w10 y = some RFUNQ := tyB_grown (tyB_call HT8.out (b_alloc HB9.out _)) hg10 hne1
          have B10 : Below Wf.heap.size Wf w10 := b_gr0 (b_alloc (b_call HBW8.out HB9.out) _) hg10 (fun j hj => by have := (hown2 j hj).1; omega)
          have ST : GSt Wf (w10.setCell ⟨y, 3, none⟩ (.slice (some ⟨g10, 0, none⟩) C9.length cap10)) y (.slice pa pn pc) (.slice la ln lc) r (code.take (j + 1)) := by
            rw [HC9.out]
            exact ⟨_, ownR_kept own10 (gb_set (gb_refl w10 (some y)) 3 none _) (Or.inr (by intro e; have e2 : some g10 = some y := e; injection e2; omega)), blk_set KA 3 _, by rw [tyB_set]; exact TA, b_set B10 hyW _⟩
          have HSTT := Lib.hid ST
          refine hK.out _ _ (HS8.out _ KA XA) (fun hHeld => ?_)
          clear hK K
          (try simp only [Act.put, List.getElem_toArray, List.getElem_cons_succ, List.getElem_cons_zero, List.setIfInBounds_toArray, List.set_cons_zero, List.set_cons_succ])
          (refine wpAnyE_take (n := 12) (i := 6) (v := ?_) rfl (by kernel_rfl) (by kernel_rfl) (by kernel_rfl) (by kernel_rfl) (by kernel_rfl) (fun _ _ _ h => h) (Or.inl ⟨by rfl, ?_⟩) hHeld ?_; rotate_left; (focus (intro w hSw; (try dsimp only at hSw); go_simp; try (with_reducible rfl))); (try simp only [Act.put, List.getElem_toArray, List.getElem_cons_succ, List.getElem_cons_zero, List.setIfInBounds_toArray, List.set_cons_zero, List.set_cons_succ]))
          obtain ⟨z0, z1, z2, z3, zf⟩ := blk4 KA
          clear ST own10 hg10 KA XA B10 z0 z1 z2 hHeld TA
          refine wpAnyE_ready (rs := [7]) (by kernel_rfl) (by simp) (AllReadyE.last rfl (fun K hK => ?_))
          go_simp
          refine hK.out _ _ (trivial) (fun hHeld => ?_)
          clear hK K
          (try simp only [Act.put, List.getElem_toArray, List.getElem_cons_succ, List.getElem_cons_zero, List.setIfInBounds_toArray, List.set_cons_zero, List.set_cons_succ])
          refine wpAnyE_done (by kernel_rfl) ?_
          go_wp2_with fail
          exact ⟨⟨j + 1, by omega, by go_num, HSTT⟩, by simp only [intOf]; omega⟩
        · rw [List.take_of_length_le (show code.length ≤ j by omega)] at hown
          obtain ⟨vv, LL, o1, o2, o3, o4, o5⟩ := plSt_below HPS.out hb
          have hLL : LL.length ≤ 17 := by
            have q := allQ_len o2
            have := HF17.out
            rw [q, List.length_take]; omega
          obtain ⟨va, vc, ev, _⟩ := readR_len (ownR_read hown)
          subst ev
          have hd : DeepQ w wr ⟨⟨pa, pn, pc⟩, ⟨la, ln, lc⟩, r, ⟨va, code.length, vc⟩⟩ ⟨ps, ls, r, code⟩ := ⟨DP, DL, rfl, ownR_read hown, ownR_slOk hown⟩
          obtain ⟨y0, y1, y2, y3, yf⟩ := blk4 o3
          obtain ⟨x0, x1, x2, x3, xf⟩ := blk4 hblk
          have hol := ownR_lt o1
          have hot := ownR_ty o1
          have hgl2 := o3.1
          have hneX : some W.heap.size ≠ vv.ownBlock := fun e => by have := (hol _ e.symm).1; omega
          have hyx : ¬ W.heap.size = y := by have := HWX.out; have := HWF.out; omega
          have HD := Lib.hid hd
          have HO1 := Lib.hid o1; have HO2 := Lib.hid o2; have HO3 := Lib.hid o3; have HO4 := Lib.hid o4; have HO5 := Lib.hid o5
          have HOT := Lib.hid hot
          clear hd o1 o2 o3 o4 o5 hown hblk hty hb hq hot
          go_wp2_with (at_builtin; refine appendR rowFn rfl _ _ rfl (W.heap.size + 1) vv LL rfl (ownR_alloc HO1.out _) _ [⟨⟨pa, pn, pc⟩, ⟨la, ln, lc⟩, r, ⟨va, code.length, vc⟩⟩] rfl (readR_new (c := fnE) wr _ ⟨⟨pa, pn, pc⟩, ⟨la, ln, lc⟩, r, ⟨va, code.length, vc⟩⟩) ?c1 ?c2 ?c3 ?_; (case c1 => (rw [List.length_singleton]; omega)); (case c2 => (rw [List.length_singleton]; unfold maxLen; omega)); (case c3 => (rw [World.size_alloc]; omega)); intro v1 w1 own1 hg1; obtain ⟨L9, hL9⟩ : ∃ L9, L9 = LL ++ [⟨⟨pa, pn, pc⟩, ⟨la, ln, lc⟩, r, ⟨va, code.length, vc⟩⟩] := ⟨_, rfl⟩; rw [← hL9] at own1; obtain ⟨g1, cap1, rfl, gg1, _⟩ := ownR_form own1 (by rw [hL9]; simp); have KG := blk_grown (blk_alloc HO3.out _) hg1 hneX; have HKG := Lib.hid KG; have HOWN1 := Lib.hid own1; have HG1 := Lib.hid hg1; have HL9 := Lib.hid hL9; clear hL9 own1 hg1; obtain ⟨z0, z1, z2, z3, zf⟩ := blk4 KG; clear KG z0 z1 z2)
          have TG : tyB w1 W.heap.size = some RPROQ := tyB_grown (tyB_alloc HO4.out _) HG1.out hneX
          have K : KeepE RINSQ wr (w1.setCell ⟨W.heap.size, 3, none⟩ (.slice (some ⟨g1, 0, none⟩) L9.length cap1)) := keepE_trans (keepE_below (b_alloc (Below.refl _ _) _)) (keepE_trans (keepE_grown HG1.out (fun j hj => ⟨RFUNQ, tyB_alloc (HOT.out j hj) _, by decide⟩)) (keepE_grown (gb_set (gb_refl w1 (some W.heap.size)) 3 none _) (fun j hj => by injection hj with hj; subst hj; exact ⟨RPROQ, TG, by decide⟩)))
          have BG : Below W.heap.size W w1 := b_gr0 (b_alloc HO5.out _) HG1.out (fun j hj => by have := (hol j hj).1; omega)
          have FIN : PlSt w W (w1.setCell ⟨W.heap.size, 3, none⟩ (.slice (some ⟨g1, 0, none⟩) L9.length cap1)) W.heap.size u (.slice ga gn gc) m (fs.take (k + 1)) := by
            refine ⟨_, L9, ownR_kept HOWN1.out (gb_set (gb_refl w1 (some W.heap.size)) 3 none _) (Or.inr (by intro e; have e2 : some g1 = some W.heap.size := e; injection e2; omega)), ?_, blk_set HKG.out 3 _, by rw [tyB_set]; exact TG, b_set BG (Nat.le_refl _) _⟩
            have q := allQ_snoc (deepQ_keep K HD.out) (allQ_keep K HO2.out)
            rw [← HL9.out, ← HSN.out] at q
            exact q
          have HFIN := Lib.hid FIN
          clear FIN K BG TG
          first
            | go_roundw
              case rel => exact ⟨k + 1, by omega, by go_num, HFIN⟩
              case measure => simp [intOf]; omega
            | exact ⟨⟨k + 1, by omega, by go_num, HFIN⟩, by simp only [intOf]; omega⟩
    · obtain rfl : k = L.length := by omega
      rw [List.take_of_length_le (by have := HFL.out; omega)] at o2
      have RB := Lib.hid (blk_below HBR.out hbw)
      have BWW := Lib.hid (b_call HBW.out hbw)
      obtain ⟨e0, e1, e2, e3, ef⟩ := blk4 RB.out
      obtain ⟨va, vc, ev, _⟩ := readR_len (ownR_read o1)
      obtain ⟨n0, hn0⟩ : ∃ n0, n0 = LL.length := ⟨_, rfl⟩
      rw [← hn0] at ev
      subst ev
      clear hn0
      obtain ⟨f0, f1, f2, f3, ff⟩ := blk4 o3
      have HOZ := Lib.hid o1
      have hOl := ownR_lt o1
      have HO2 := Lib.hid o2
      have HBWR := Lib.hid hbw
      have hwW : w.heap.size + 2 = W.heap.size := HWS.out
      have hblt := RB.out.1
      have hxl := o3.1
      have hne : ¬ w.heap.size + 1 = W.heap.size := by omega
      have HWW := Lib.hid hwW
      clear o1 o2 o3 o4 hbw hp x0 x1 x2 x3 xf hwW
      go_wp2_with fail
      refine post_named ?_
      intro wF hwF
      have BF : Blk wF (w.heap.size + 1) [.bool u, .slice ga gn gc, .int .i64 m, .slice va n0 vc] := by rw [hwF]; exact blk_set (blk_set (blk_set (blk_set RB.out 0 _) 1 _) 2 _) 3 _
      have GF := gb_set (gb_set (gb_set (gb_set (gb_refl wr (some (w.heap.size + 1))) 0 none (.bool u)) 1 none (.slice ga gn gc)) 2 none (.int .i64 m)) 3 none (.slice va n0 vc)
      rw [← hwF] at GF
      have KF : KeepE RINSQ wr wF := keepE_grown GF (fun j e => by injection e with e; subst e; exact ⟨RPROQ, tyB_call HBRT.out HBWR.out, by decide⟩)
      have FB : Below w.heap.size w wF := b_grown BWW.out GF (by omega)
      have OF := ownR_kept HOZ.out GF (by
        cases hv : (Value.slice va n0 vc).ownBlock with
        | none => exact Or.inl rfl
        | some j => exact Or.inr (by intro e; injection e with e; have := (hOl j hv).1; have := HWW.out; omega))
      have AF : AllF wF LL fs := allQ_F FB (allQ_keep KF HO2.out)
      clear hwF GF
      obtain ⟨c0, c1, c2, c3, _⟩ := blk4 BF
      exact bodyPost_ret (v := aggP ⟨u, ⟨ga, gn, gc⟩, m, ⟨va, n0, vc⟩⟩) (by simp [results, Tryd.results20, go_sem, c0, c1, c2, c3]; rfl) rfl ⟨_, rfl, ⟨rfl, readI_below HG.out FB, rfl, LL, ownR_read OF, AF⟩, FB⟩
end Go.Proofs.YtedmjlhgpdeafaaDoor
