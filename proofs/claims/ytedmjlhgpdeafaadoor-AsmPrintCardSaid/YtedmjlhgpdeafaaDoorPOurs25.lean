/- Layer 25's Ours: a program as the program's own. Conditions: the program reads as lists, and is not too great. -/
import Derived.Test.YtedmjlhgpdeafaaDoorPTypP
import Derived.Test.YtedmjlhgpdeafaaDoorPBytes
namespace Go.Proofs.YtedmjlhgpdeafaaDoor
open Go.RowKit
set_option linter.unusedVariables false
set_option linter.unusedSimpArgs false
attribute [local go_sem] over_cell over_frozen
theorem rowPFn : IsRow Tryd.prog 31 63 4 80 (.agg #[.slice none 0 0, .slice none 0 0, .int .i64 0, .slice none 0 0]) := ⟨Tryd.underlying31, by kernel_rfl, by rfl⟩
theorem rowPIn : IsRow Tryd.prog 61 45 4 32 (.agg #[.int .i64 0, .int .u64 0, .int .i64 0, .int .i64 0]) := ⟨Tryd.underlying61, by kernel_rfl, by rfl⟩
theorem blk_new2 {w : World} {c : Array Value} {T : TypeId} {k : Nat} (hk : k = w.heap.size) : Blk (w.alloc (.cells c T)) k c.toList := by rw [hk]; exact blk_new w c T
theorem wpAnyH_named {P : Program} {md : Region.Mode} {ops : Array Oper} {Q : Exit → Act → World → Prop} {S : World → Prop} {fuel : Nat} {listed : Array Bool} {a : Act} {w : World} (h : ∀ w1, w1 = w → wpAnyH P md ops Q S fuel listed a w1) : wpAnyH P md ops Q S fuel listed a w := h _ rfl
def FUNT : TypeId := 63
def PROT : TypeId := 33
/-- What Ours' variable holds. -/
def OurSt (W wr : World) (g : Nat) (u : Bool) (gl : List Int) (m : Int) (fs : List FnM) : Prop := ∃ (v : Value) (a : Option Addr) (n c : Nat) (L : List FnV), OwnR fnE FUNT wr (g + 1) v L ∧ AllT wr L fs ∧ ReadI wr (.slice a n c) gl ∧ slOk wr INTT a n ∧ Blk wr g [.bool u, .slice a n c, .int .i64 m, v] ∧ tyB wr g = some PROT ∧ Below W.heap.size W wr
theorem ourSt_below {W wr w' : World} {g : Nat} {u : Bool} {gl : List Int} {m : Int} {fs : List FnM} (h : OurSt W wr g u gl m fs) (hb : Below wr.heap.size wr w') : OurSt W w' g u gl m fs := by
  obtain ⟨v, a, n, c, L, h1, h2, h3, h4, h5, h6, h7⟩ := h
  exact ⟨v, a, n, c, L, ownR_below h1 hb, allT_keep (keepT_below hb) h2, readI_below h3 hb, slOk_keep h4 (keepT_ty (keepT_below hb) (Or.inl rfl)), blk_below h5 hb, tyB_call h6 hb, b_call h7 hb⟩
/-- A function that is being made. -/
def FunSt (W5 wr : World) (x : Nat) (ps ls : List Int) (r : Int) (code : List In4) : Prop := ∃ (p l : Sl) (v : Value), ReadI wr (.slice p.a p.n p.c) ps ∧ ReadI wr (.slice l.a l.n l.c) ls ∧ slOk wr INTT p.a p.n ∧ slOk wr INTT l.a l.n ∧ OwnR inE INST wr (x + 1) v code ∧ Blk wr x [.slice p.a p.n p.c, .slice l.a l.n l.c, .int .i64 r, v] ∧ tyB wr x = some FUNT ∧ Below W5.heap.size W5 wr
/-- What changes nothing of what is of integers. -/
def KeepI (w w' : World) : Prop := w.heap.size ≤ w'.heap.size ∧ ∀ k, tyB w k = some INTT → w'.heap[k]? = w.heap[k]?
theorem keepI_below {w w' : World} (hb : Below w.heap.size w w') : KeepI w w' := ⟨hb.size, fun k hk => hb.block k (tyB_lt hk)⟩
theorem keepI_set {w : World} {p : Addr} {X : TypeId} (hX : tyB w p.block = some X) (h1 : X ≠ INTT) (u : Value) : KeepI w (w.setCell p u) := ⟨by simp, fun k hk => by
  refine Below.heap_setCell _ _ _ _ (fun e => ?_)
  subst e
  rw [hX] at hk; injection hk with h; exact h1 h⟩
theorem keepI_grown {w w' : World} {r : Option Nat} (hg : w.grownBy w' r) (h : ∀ j, r = some j → ∃ X, tyB w j = some X ∧ X ≠ INTT) : KeepI w w' := ⟨hg.size, fun k hk => by
  refine hg.block k (tyB_lt hk) (fun e => ?_)
  obtain ⟨X, hX, h1⟩ := h k e.symm
  rw [hX] at hk; injection hk with h; exact h1 h⟩
theorem keepI_ty {w w' : World} (h : KeepI w w') (k : Nat) (hk : tyB w k = some INTT) : tyB w' k = some INTT := by
  rw [tyB_block (h.2 k hk)]; exact hk
theorem keepI_trans {a b c : World} (h : KeepI a b) (h' : KeepI b c) : KeepI a c := ⟨Nat.le_trans h.1 h'.1, fun k hk => by rw [h'.2 k (keepI_ty h k hk), h.2 k hk]⟩
theorem readI_keepI {w w' : World} {a : Option Addr} {n cap : Nat} {xs : List Int} (h : KeepI w w') (ho : slOk w INTT a n) (hr : ReadI w (.slice a n cap) xs) : ReadI w' (.slice a n cap) xs := readR_I (readR_apart (readI_R hr) ho h.1 (fun k hk => h.2 k hk))
/-- An instruction's cells, one by one. -/
theorem in_cells {w : World} {b o : Nat} {L : List In4} (h4 : ∀ k, (h : k < L.length) → ∀ j, j < inE.size → w.cell? ⟨b, o + (k * inE.size + j), none⟩ = (inE.cells L[k])[j]?) (k : Nat) (hk : k < L.length) :
    w.cell? ⟨b, o + k * 4, none⟩ = some (.int .i64 L[k].op) ∧ w.cell? ⟨b, o + k * 4 + 1, none⟩ = some (.int .u64 L[k].x) ∧ w.cell? ⟨b, o + k * 4 + 2, none⟩ = some (.int .i64 L[k].a) ∧ w.cell? ⟨b, o + k * 4 + 3, none⟩ = some (.int .i64 L[k].b) := by
  have h4' : ∀ (j : Nat), j < 4 → w.cell? ⟨b, o + k * 4 + j, none⟩ = (inE.cells L[k])[j]? := fun j hj => by
    have := h4 k hk j hj
    rw [Nat.add_assoc]; exact this
  exact ⟨h4' 0 (by omega), h4' 1 (by omega), h4' 2 (by omega), h4' 3 (by omega)⟩
theorem ownR_slOk {α : Type} {c : Elt α} {E : TypeId} {w : World} {B : Nat} {a : Option Addr} {n cap : Nat} {L : List α} (h : OwnR c E w B (.slice a n cap) L) : slOk w E a n := by
  have ht := ownR_ty h
  rcases h.2 with ⟨e, _⟩ | ⟨g, cap, cur, e, _⟩
  · cases e; exact Or.inl rfl
  · cases e; exact Or.inr ⟨g, rfl, ht g rfl⟩
set_option maxRecDepth 100000 in
set_option maxHeartbeats 8000000 in
theorem ours25_any (p : PrV) (P : PrM) (w : World) (h : ReadP w p P) (hs : SmallP P) : Calls Tryd.prog 12 #[aggP p] w fun e w' => ∃ q, e = .returned (aggP q) ∧ ReadP w' q P ∧ Below w.heap.size w w' := by
  obtain ⟨u, ⟨ga, gn, gc⟩, m, ⟨fa, fn, fc⟩⟩ := p
  obtain ⟨hu, hg, hm, L, hL, hA⟩ := h
  simp only at hu hm
  unfold Sl.v at hg hL
  simp only at hg hL
  obtain ⟨hg1, hg2, hg3⟩ := sli_cap hg
  obtain ⟨hf1, hf2, hf3⟩ := slr_cap hL
  subst hf3
  have hfm := cap_le hf2
  have hgl : P.gl.length ≤ 10 := hs.g
  have HG := Lib.hid (readI_R hg)
  have HL := Lib.hid hL; have HA := Lib.hid hA
  have HU := Lib.hid hu; have HM := Lib.hid hm
  have HSM := Lib.hid hs
  clear hg hL hA hu hm hg3 hs
  unfold aggP Sl.v
  simp only
  go_enter Tryd.func12, Tryd.ntmps12
  go_upto_region 1 with fail
  refine wp_named ?_
  intro W hW
  have BX : Blk W w.heap.size [.bool u, .slice ga gn gc, .int .i64 m, .slice fa L.length fc] := by rw [hW]; exact blk_alloc (blk_new _ _ _) _
  have BR : Blk W (w.heap.size + 1) [.bool false, .slice none 0 0, .int .i64 0, .slice none 0 0] := by
    have q := blk_new (w.alloc (.cells #[.bool u, .slice ga gn gc, .int .i64 m, .slice fa L.length fc] 25)) #[.bool false, .slice none 0 0, .int .i64 0, .slice none 0 0] 33
    rw [World.size_alloc] at q
    rw [hW]; exact q
  have hBW : Below w.heap.size w W := by rw [hW]; exact b_alloc (b_alloc (Below.refl _ _) _) _
  have hWs : w.heap.size + 2 ≤ W.heap.size := by have := BR.1; omega
  have BRT : tyB W (w.heap.size + 1) = some PROT := by rw [hW]; exact tyB_new2 (by simp)
  have HBRT := Lib.hid BRT
  have HBX := Lib.hid BX; have HBR := Lib.hid BR
  have HGW := Lib.hid (readR_below HG.out hBW)
  clear hW BX BR BRT
  go_cut [3] (fun s wx => ∃ g, s = .pointer (some ⟨g, 0, none⟩) ∧ W.heap.size ≤ g ∧ OurSt W wx g u P.gl m [])
  case first =>
    have HW : Hid (∀ w', Below W.heap.size W w' → w'.cell? ⟨w.heap.size, 0, none⟩ = some (.bool u) ∧ w'.cell? ⟨w.heap.size, 1, none⟩ = some (.slice ga gn gc) ∧ w'.cell? ⟨w.heap.size, 2, none⟩ = some (.int .i64 m)) := Lib.hid (fun w' hb => by
      obtain ⟨y0, y1, y2, y3, yf⟩ := blk4 (blk_below HBX.out hb)
      exact ⟨y0, y1, y2⟩)
    go_region_held3 (fun w' => w'.cell? ⟨w.heap.size, 0, none⟩ = some (.bool u) ∧ w'.cell? ⟨w.heap.size, 1, none⟩ = some (.slice ga gn gc) ∧ w'.cell? ⟨w.heap.size, 2, none⟩ = some (.int .i64 m))
      (exact HW.out _ (by (repeat' (first | exact Below.refl _ _ | assumption | refine b_alloc ?_ _ | refine b_drew ?_ | refine b_call ?_ (by assumption) | refine b_set ?_ (by first | (simp; done) | (have := hz9; simp at this ⊢; omega)) _))))
      (first | (refine step_appendNew (c := intE) rowInt (by rfl) _ _ (by rfl) _ (by rfl) _ P.gl (by rfl) (readR_below HGW.out (by (repeat' (first | exact Below.refl _ _ | assumption | refine b_alloc ?_ _ | refine b_drew ?_)))) (by omega) (by unfold maxLen; omega) ?_; intro v9 w9 hn9; obtain ⟨hr9, ⟨k9, cap9, rfl, hk9⟩, hb9⟩ := hn9; have hz9 := hb9.size; obtain ⟨hc9, hf9⟩ := bcell hb9; simp only [World.size_alloc, World.size_drew] at hz9 hc9 hf9 hk9))
    · have K9 := keepT_below (b_alloc (Below.refl w9.heap.size w9) (.cells #[.bool u, .slice (some ⟨k9, 0, none⟩) P.gl.length cap9, .int .i64 m, .slice none 0 0] 33))
      have S9 := slOk_new hk9
      go_wp2_with fail
      go_meet
      case rel => exact ⟨_, rfl, by omega, _, _, _, _, [], ownR_nil _ _, trivial, readI_keep K9 S9 (readR_I hr9), slOk_keep S9 (keepT_ty K9 (Or.inl rfl)), blk_new2 rfl, tyB_new2 rfl, b_alloc (b_call (b_drew (b_alloc (Below.refl _ _) _)) hb9) _⟩
    · have KB : Blk w9 (W.heap.size + 1) [.bool false, .slice none 0 0, .int .i64 0, .slice none 0 0] := blk_below (blk_drew (blk_new2 (by simp))) hb9
      have TB : tyB w9 (W.heap.size + 1) = some PROT := by refine tyB_call ?_ hb9; rw [tyB_drew]; exact tyB_new2 (by simp)
      have S9 := slOk_new hk9
      have hm : ∀ (o : Nat) (u : Value) (w : World), tyB w (W.heap.size + 1) = some PROT → KeepT w (w.setCell ⟨W.heap.size + 1, o, none⟩ u) := fun o u w h => keepT_set (p := ⟨W.heap.size + 1, o, none⟩) h (by decide) (by decide) u
      have K9 : KeepT w9 ((((w9.setCell ⟨W.heap.size + 1, 0, none⟩ (.bool u)).setCell ⟨W.heap.size + 1, 1, none⟩ (.slice (some ⟨k9, 0, none⟩) P.gl.length cap9)).setCell ⟨W.heap.size + 1, 2, none⟩ (.int .i64 m)).setCell ⟨W.heap.size + 1, 3, none⟩ (.slice none 0 0)) := keepT_trans (keepT_trans (keepT_trans (hm 0 _ _ TB) (hm 1 _ _ (by rw [tyB_set]; exact TB))) (hm 2 _ _ (by rw [tyB_set, tyB_set]; exact TB))) (hm 3 _ _ (by rw [tyB_set, tyB_set, tyB_set]; exact TB))
      have HK9 := Lib.hid K9
      clear hm K9
      go_wp2_with fail
      go_meet
      case rel => exact ⟨_, rfl, by omega, _, _, _, _, [], ownR_nil _ _, trivial, readI_keep HK9.out S9 (readR_I hr9), slOk_keep S9 (keepT_ty HK9.out (Or.inl rfl)), blk_set (blk_set (blk_set (blk_set KB 0 _) 1 _) 2 _) 3 _, by rw [tyB_set, tyB_set, tyB_set, tyB_set]; exact TB, b_set (b_set (b_set (b_set (b_call (b_drew (b_alloc (b_alloc (Below.refl _ _) _) _)) hb9) (by simp) _) (by simp) _) (by simp) _) (by simp) _⟩
    · have KB : Blk w9 (W.heap.size) [.bool false, .slice none 0 0, .int .i64 0, .slice none 0 0] := blk_below (blk_drew (blk_alloc (blk_new2 rfl) _)) hb9
      have TB : tyB w9 (W.heap.size) = some PROT := by refine tyB_call ?_ hb9; rw [tyB_drew]; exact tyB_alloc (tyB_new2 rfl) _
      have S9 := slOk_new hk9
      have hm : ∀ (o : Nat) (u : Value) (w : World), tyB w (W.heap.size) = some PROT → KeepT w (w.setCell ⟨W.heap.size, o, none⟩ u) := fun o u w h => keepT_set (p := ⟨W.heap.size, o, none⟩) h (by decide) (by decide) u
      have K9 : KeepT w9 ((((w9.setCell ⟨W.heap.size, 0, none⟩ (.bool u)).setCell ⟨W.heap.size, 1, none⟩ (.slice (some ⟨k9, 0, none⟩) P.gl.length cap9)).setCell ⟨W.heap.size, 2, none⟩ (.int .i64 m)).setCell ⟨W.heap.size, 3, none⟩ (.slice none 0 0)) := keepT_trans (keepT_trans (keepT_trans (hm 0 _ _ TB) (hm 1 _ _ (by rw [tyB_set]; exact TB))) (hm 2 _ _ (by rw [tyB_set, tyB_set]; exact TB))) (hm 3 _ _ (by rw [tyB_set, tyB_set, tyB_set]; exact TB))
      have HK9 := Lib.hid K9
      clear hm K9
      go_wp2_with fail
      go_meet
      case rel => exact ⟨_, rfl, by omega, _, _, _, _, [], ownR_nil _ _, trivial, readI_keep HK9.out S9 (readR_I hr9), slOk_keep S9 (keepT_ty HK9.out (Or.inl rfl)), blk_set (blk_set (blk_set (blk_set KB 0 _) 1 _) 2 _) 3 _, by rw [tyB_set, tyB_set, tyB_set, tyB_set]; exact TB, b_set (b_set (b_set (b_set (b_call (b_drew (b_alloc (b_alloc (Below.refl _ _) _) _)) hb9) (by simp) _) (by simp) _) (by simp) _) (by simp) _⟩
  case rest =>
    obtain ⟨g, rfl, hgW, hst⟩ := hcut
    have hx3 : wc.cell? ⟨w.heap.size, 3, none⟩ = some (.slice fa L.length fc) := by
      obtain ⟨_, _, _, _, _, _, _, _, _, _, _, hb⟩ := hst
      exact (blk4 (blk_below HBX.out hb)).2.2.2.1
    have HST := Lib.hid hst
    have hfl : P.fs.length = L.length := (allF_len HA.out).symm
    have hf17 : L.length ≤ 17 := by rw [← hfl]; exact HSM.out.f
    have HFL := Lib.hid hfl
    clear hst hfl
    go_wp2_with fail
    go_loopw [21] (fun i wr => ∃ k : Nat, k ≤ L.length ∧ i = .int .i64 k ∧ Hid (OurSt W wr g u P.gl m (P.fs.take k))) (fun i _ => L.length - (intOf i).toNat)
    case atStart => exact ⟨0, Nat.zero_le _, rfl, HST.out⟩
    case round =>
      obtain ⟨k, hk, rfl, hp⟩ := hrel
      have k0 : (0 : Int) ≤ k := by omega
      have hbw : Below W.heap.size W wr := by obtain ⟨_, _, _, _, _, _, _, _, _, _, _, hb⟩ := hp.out; exact hb
      have hgl : g < wr.heap.size := by obtain ⟨_, _, _, _, _, _, _, _, _, hb, _⟩ := hp.out; exact hb.1
      by_cases hlt : k < L.length
      · obtain ⟨bl, off, cp, e1, r1, r2, hbl, r4⟩ := readR_pos (readR_below HL.out hBW) (by omega)
        cases e1
        have k1 : (k : Int) < L.length := by omega
        have hcs := fn_cells r4 k hlt
        rw [← (bcell hbw).1 _ _ hbl, ← (bcell hbw).1 _ _ hbl, ← (bcell hbw).1 _ _ hbl, ← (bcell hbw).1 _ _ hbl] at hcs
        have hkf : k < P.fs.length := by rw [HFL.out]; exact hlt
        have hdf := allF_at HA.out k hlt hkf
        have hsf := HSM.out.a _ (List.getElem_mem hkf)
        have HSN : Hid (P.fs.take (k + 1) = P.fs.take k ++ [P.fs[k]]) := List.take_succ_eq_append_getElem hkf
        generalize L[k] = f at *
        generalize P.fs[k] = fm at *
        obtain ⟨⟨pa, pn, pc⟩, ⟨la, ln, lc⟩, r, ⟨ca, cn, cc⟩⟩ := f
        obtain ⟨ps, ls, r', code⟩ := fm
        obtain ⟨dp, dl, dr, dc⟩ := hdf
        obtain ⟨sp, sl, sc⟩ := hsf
        simp only at hcs dr sp sl sc
        subst dr
        obtain ⟨d0, d1, d2, d3⟩ := hcs
        have hBr := b_call hBW hbw
        obtain ⟨hc1, hc2, hc3⟩ := slr_cap (show ReadR inE w (.slice ca cn cc) code from dc)
        subst hc3
        have hcm := cap_le hc2
        have HB5 : Hid (Below wr.heap.size wr (wr.alloc (.cells #[.slice pa pn pc, .slice la ln lc, .int .i64 r, .slice ca code.length cc] 60))) := Lib.hid (b_alloc (Below.refl _ _) _)
        have HX5 : Hid (Blk (wr.alloc (.cells #[.slice pa pn pc, .slice la ln lc, .int .i64 r, .slice ca code.length cc] 60)) wr.heap.size [.slice pa pn pc, .slice la ln lc, .int .i64 r, .slice ca code.length cc]) := Lib.hid (blk_new _ _ _)
        have HDP := Lib.hid (readR_below (readI_R (show ReadI w (.slice pa pn pc) ps from dp)) hBr)
        have HDL := Lib.hid (readR_below (readI_R (show ReadI w (.slice la ln lc) ls from dl)) hBr)
        have HDC := Lib.hid (readR_below (show ReadR inE w (.slice ca code.length cc) code from dc) hBr)
        have HBW := Lib.hid hbw
        clear r4 dp dl dc hbw hBr
        go_upto_region 5 with fail
        refine wp_named ?_
        intro W5 hW5
        have hb5 : Below wr.heap.size wr W5 := by rw [hW5]; exact HB5.out
        have X5 : Blk W5 wr.heap.size [.slice pa pn pc, .slice la ln lc, .int .i64 r, .slice ca code.length cc] := by rw [hW5]; exact HX5.out
        have HX := Lib.hid X5
        have HP5 := Lib.hid (readR_below HDP.out hb5)
        have HL5 := Lib.hid (readR_below HDL.out hb5)
        have HC5 := Lib.hid (readR_below HDC.out hb5)
        have HO5 := Lib.hid (ourSt_below hp.out hb5)
        have hw5s := hb5.size
        have hxl := X5.1
        clear hW5 X5 d0 d1 d2 d3 hp
        go_cut [6] (fun s wx => ∃ x, s = .pointer (some ⟨x, 0, none⟩) ∧ W5.heap.size ≤ x ∧ FunSt W5 wx x ps ls r [])
        case first =>
          have HW : Hid (∀ w', Below W5.heap.size W5 w' → w'.cell? ⟨wr.heap.size, 0, none⟩ = some (.slice pa pn pc) ∧ w'.cell? ⟨wr.heap.size, 1, none⟩ = some (.slice la ln lc) ∧ w'.cell? ⟨wr.heap.size, 2, none⟩ = some (.int .i64 r)) := Lib.hid (fun w' hb => by
            obtain ⟨y0, y1, y2, y3, yf⟩ := blk4 (blk_below HX.out hb)
            exact ⟨y0, y1, y2⟩)
          --R5
          refine wp_region_held_drew (S := (fun w' => w'.cell? ⟨wr.heap.size, 0, none⟩ = some (.slice pa pn pc) ∧ w'.cell? ⟨wr.heap.size, 1, none⟩ = some (.slice la ln lc) ∧ w'.cell? ⟨wr.heap.size, 2, none⟩ = some (.int .i64 r))) (by kernel_rfl) (HW.out _ (b_drew (Below.refl _ _))) (fun hHeld => ?_)
          refine atI 1 ?_
          iterate 2 (refine takeN (v := ?_) rfl (by rfl) ?_ hHeld ?_; rotate_left; (focus (intro w hSw; (try dsimp only at hSw); go_simp; try (with_reducible rfl))); (try simp only [Act.put, Nat.reduceAdd, List.getElem_toArray, List.getElem_cons_succ, List.getElem_cons_zero, List.setIfInBounds_toArray, List.set_cons_zero, List.set_cons_succ]))
          refine atIo ?_
          refine atI 5 ?_
          iterate 2 (refine takeN (v := ?_) rfl (by rfl) ?_ hHeld ?_; rotate_left; (focus (intro w hSw; (try dsimp only at hSw); go_simp; try (with_reducible rfl))); (try simp only [Act.put, Nat.reduceAdd, List.getElem_toArray, List.getElem_cons_succ, List.getElem_cons_zero, List.setIfInBounds_toArray, List.set_cons_zero, List.set_cons_succ]))
          refine atIo ?_
          refine atI 8 ?_
          iterate 2 (refine takeN (v := ?_) rfl (by rfl) ?_ hHeld ?_; rotate_left; (focus (intro w hSw; (try dsimp only at hSw); go_simp; try (with_reducible rfl))); (try simp only [Act.put, Nat.reduceAdd, List.getElem_toArray, List.getElem_cons_succ, List.getElem_cons_zero, List.setIfInBounds_toArray, List.set_cons_zero, List.set_cons_succ]))
          refine atIo ?_
          refine wpAnyH_named ?_
          intro q0 hq0
          have BW0 : Below W5.heap.size W5 q0 := by rw [hq0]; exact b_drew (Below.refl _ _)
          clear hq0
          replace hHeld := HW.out _ BW0
          refine wpAnyH_ready (rs := [0, 4, 11]) (by kernel_rfl) (by simp) (AllReadyH.cons rfl (fun K hK => ?_) (AllReadyH.cons rfl (fun K hK => ?_) (AllReadyH.cons rfl (fun K hK => ?_) AllReadyH.nil)))
          · go_simp
            refine hK.out _ _ (HW.out _ (b_alloc BW0 _)) (fun hHeld => ?_)
            clear hK K
            (try simp only [Act.put, List.getElem_toArray, List.getElem_cons_succ, List.getElem_cons_zero, List.setIfInBounds_toArray, List.set_cons_zero, List.set_cons_succ])
            refine wpAnyH_named ?_
            intro q1 hq1
            have hb1 : Below q0.heap.size q0 q1 := by rw [hq1]; exact b_alloc (Below.refl _ _) _
            have BW1 := b_call BW0 hb1
            clear hq1
            replace hHeld := HW.out _ BW1
            refine wpAnyH_ready (rs := [3, 4, 11]) (by kernel_rfl) (by simp) (AllReadyH.cons rfl (fun K hK => ?_) (AllReadyH.cons rfl (fun K hK => ?_) (AllReadyH.cons rfl (fun K hK => ?_) AllReadyH.nil)))
            · refine step_appendNew (c := intE) rowInt (by rfl) _ _ (by rfl) _ (by rfl) _ ps (by rfl) (readR_below HP5.out BW1) (by omega) (by unfold maxLen; omega) ?_
              intro v2 q2 hn2
              obtain ⟨R72, ⟨k7, cap7, rfl, hk7⟩, hb2⟩ := hn2
              have BW2 := b_call BW1 hb2
              have T72 := slOk_new hk7
              clear hk7
              refine hK.out _ _ (HW.out _ BW2) (fun hHeld => ?_)
              clear hK K
              (try simp only [Act.put, List.getElem_toArray, List.getElem_cons_succ, List.getElem_cons_zero, List.setIfInBounds_toArray, List.set_cons_zero, List.set_cons_succ])
              refine wpAnyH_ready (rs := [4, 11]) (by kernel_rfl) (by simp) (AllReadyH.cons rfl (fun K hK => ?_) (AllReadyH.cons rfl (fun K hK => ?_) AllReadyH.nil))
              · go_simp
                refine hK.out _ _ (HW.out _ (b_alloc BW2 _)) (fun hHeld => ?_)
                clear hK K
                (try simp only [Act.put, List.getElem_toArray, List.getElem_cons_succ, List.getElem_cons_zero, List.setIfInBounds_toArray, List.set_cons_zero, List.set_cons_succ])
                refine wpAnyH_named ?_
                intro q3 hq3
                have hb3 : Below q2.heap.size q2 q3 := by rw [hq3]; exact b_alloc (Below.refl _ _) _
                have BW3 := b_call BW2 hb3
                have R73 := readR_below R72 hb3; have T73 := slOk_keep T72 (keepT_ty (keepT_below hb3) (Or.inl rfl))
                clear R72 T72
                clear hq3
                replace hHeld := HW.out _ BW3
                refine wpAnyH_ready (rs := [7, 11]) (by kernel_rfl) (by simp) (AllReadyH.cons rfl (fun K hK => ?_) (AllReadyH.cons rfl (fun K hK => ?_) AllReadyH.nil))
                · refine step_appendNew (c := intE) rowInt (by rfl) _ _ (by rfl) _ (by rfl) _ ls (by rfl) (readR_below HL5.out BW3) (by omega) (by unfold maxLen; omega) ?_
                  intro v4 q4 hn4
                  obtain ⟨R84, ⟨k8, cap8, rfl, hk8⟩, hb4⟩ := hn4
                  have BW4 := b_call BW3 hb4
                  have T84 := slOk_new hk8
                  clear hk8
                  refine hK.out _ _ (HW.out _ BW4) (fun hHeld => ?_)
                  clear hK K
                  (try simp only [Act.put, List.getElem_toArray, List.getElem_cons_succ, List.getElem_cons_zero, List.setIfInBounds_toArray, List.set_cons_zero, List.set_cons_succ])
                  have R74 := readR_below R73 hb4; have T74 := slOk_keep T73 (keepT_ty (keepT_below hb4) (Or.inl rfl))
                  clear R73 T73
                  (refine wpAnyH_take (i := 10) (v := ?_) rfl (by kernel_rfl) (by kernel_rfl) (by kernel_rfl) (fun _ _ _ h => h) (Or.inl ⟨by rfl, ?_⟩) hHeld ?_; rotate_left; (focus (intro w hSw; (try dsimp only at hSw); go_simp; try (with_reducible rfl))); (try simp only [Act.put, List.getElem_toArray, List.getElem_cons_succ, List.getElem_cons_zero, List.setIfInBounds_toArray, List.set_cons_zero, List.set_cons_succ]))
                  refine wpAnyH_ready (rs := [11]) (by kernel_rfl) (by simp) (AllReadyH.cons rfl (fun K hK => ?_) AllReadyH.nil)
                  go_simp
                  refine hK.out _ _ (HW.out _ (b_alloc BW4 _)) (fun hHeld => ?_)
                  clear hK K
                  (try simp only [Act.put, List.getElem_toArray, List.getElem_cons_succ, List.getElem_cons_zero, List.setIfInBounds_toArray, List.set_cons_zero, List.set_cons_succ])
                  refine wpAnyH_named ?_
                  intro q5 hq5
                  have hb5 : Below q4.heap.size q4 q5 := by rw [hq5]; exact b_alloc (Below.refl _ _) _
                  have BW5 := b_call BW4 hb5
                  have KE5 : Blk q5 q4.heap.size [.slice none 0 0, .slice none 0 0, .int .i64 0, .slice none 0 0] := by rw [hq5]; exact blk_new _ _ _
                  have TE5 : tyB q5 q4.heap.size = some FUNT := by rw [hq5]; exact tyB_new _ _ _
                  have XE := BW4.size
                  have R75 := readR_below R74 hb5; have T75 := slOk_keep T74 (keepT_ty (keepT_below hb5) (Or.inl rfl))
                  have R85 := readR_below R84 hb5; have T85 := slOk_keep T84 (keepT_ty (keepT_below hb5) (Or.inl rfl))
                  clear R74 T74 R84 T84
                  clear hq5
                  replace hHeld := HW.out _ BW5
                  refine wpAnyH_ready (rs := [12]) (by kernel_rfl) (by simp) (AllReadyH.cons rfl (fun K hK => ?_) AllReadyH.nil)
                  obtain ⟨e0, e1, e2, e3, ef⟩ := blk4 KE5
                  go_simp
                  have BF : Below W5.heap.size W5 ((((q5.setCell ⟨q4.heap.size, 0, none⟩ (.slice (some ⟨k7, 0, none⟩) ps.length cap7)).setCell ⟨q4.heap.size, 1, none⟩ (.slice (some ⟨k8, 0, none⟩) ls.length cap8)).setCell ⟨q4.heap.size, 2, none⟩ (.int .i64 r)).setCell ⟨q4.heap.size, 3, none⟩ (.slice none 0 0)) := b_set (b_set (b_set (b_set BW5 XE _) XE _) XE _) XE _
                  have HBF := Lib.hid BF
                  have hm : ∀ (o : Nat) (u : Value) (w : World), tyB w (q4.heap.size) = some FUNT → KeepT w (w.setCell ⟨q4.heap.size, o, none⟩ u) := fun o u w h => keepT_set (p := ⟨q4.heap.size, o, none⟩) h (by decide) (by decide) u
                  have K9 : KeepT q5 ((((q5.setCell ⟨q4.heap.size, 0, none⟩ (.slice (some ⟨k7, 0, none⟩) ps.length cap7)).setCell ⟨q4.heap.size, 1, none⟩ (.slice (some ⟨k8, 0, none⟩) ls.length cap8)).setCell ⟨q4.heap.size, 2, none⟩ (.int .i64 r)).setCell ⟨q4.heap.size, 3, none⟩ (.slice none 0 0)) := keepT_trans (keepT_trans (keepT_trans (hm 0 _ _ TE5) (hm 1 _ _ (by rw [tyB_set]; exact TE5))) (hm 2 _ _ (by rw [tyB_set, tyB_set]; exact TE5))) (hm 3 _ _ (by rw [tyB_set, tyB_set, tyB_set]; exact TE5))
                  have FS : FunSt W5 ((((q5.setCell ⟨q4.heap.size, 0, none⟩ (.slice (some ⟨k7, 0, none⟩) ps.length cap7)).setCell ⟨q4.heap.size, 1, none⟩ (.slice (some ⟨k8, 0, none⟩) ls.length cap8)).setCell ⟨q4.heap.size, 2, none⟩ (.int .i64 r)).setCell ⟨q4.heap.size, 3, none⟩ (.slice none 0 0)) (q4.heap.size) ps ls r [] := ⟨⟨_, _, _⟩, ⟨_, _, _⟩, .slice none 0 0, readI_keep K9 T75 (readR_I R75), readI_keep K9 T85 (readR_I R85), slOk_keep T75 (keepT_ty K9 (Or.inl rfl)), slOk_keep T85 (keepT_ty K9 (Or.inl rfl)), ownR_nil _ _, blk_set (blk_set (blk_set (blk_set KE5 0 _) 1 _) 2 _) 3 _, by rw [tyB_set, tyB_set, tyB_set, tyB_set]; exact TE5, BF⟩
                  have HFS := Lib.hid FS
                  clear hm K9 FS BF e0 e1 e2 e3 ef
                  refine hK.out _ _ (HW.out _ HBF.out) (fun hHeld => ?_)
                  clear hK K
                  (try simp only [Act.put, List.getElem_toArray, List.getElem_cons_succ, List.getElem_cons_zero, List.setIfInBounds_toArray, List.set_cons_zero, List.set_cons_succ])
                  refine wpAnyH_done (by kernel_rfl) ?_ _
                  go_wp2_with fail
                  go_meet
                  case rel => exact ⟨_, rfl, XE, HFS.out⟩
                · go_simp
                  refine hK.out _ _ (HW.out _ (b_alloc BW3 _)) (fun hHeld => ?_)
                  clear hK K
                  (try simp only [Act.put, List.getElem_toArray, List.getElem_cons_succ, List.getElem_cons_zero, List.setIfInBounds_toArray, List.set_cons_zero, List.set_cons_succ])
                  refine wpAnyH_named ?_
                  intro q6 hq6
                  have hb6 : Below q3.heap.size q3 q6 := by rw [hq6]; exact b_alloc (Below.refl _ _) _
                  have BW6 := b_call BW3 hb6
                  have KE6 : Blk q6 q3.heap.size [.slice none 0 0, .slice none 0 0, .int .i64 0, .slice none 0 0] := by rw [hq6]; exact blk_new _ _ _
                  have TE6 : tyB q6 q3.heap.size = some FUNT := by rw [hq6]; exact tyB_new _ _ _
                  have XE := BW3.size
                  have R76 := readR_below R73 hb6; have T76 := slOk_keep T73 (keepT_ty (keepT_below hb6) (Or.inl rfl))
                  clear R73 T73
                  clear hq6
                  replace hHeld := HW.out _ BW6
                  refine wpAnyH_ready (rs := [7]) (by kernel_rfl) (by simp) (AllReadyH.cons rfl (fun K hK => ?_) AllReadyH.nil)
                  refine step_appendNew (c := intE) rowInt (by rfl) _ _ (by rfl) _ (by rfl) _ ls (by rfl) (readR_below HL5.out BW6) (by omega) (by unfold maxLen; omega) ?_
                  intro v7 q7 hn7
                  obtain ⟨R87, ⟨k8, cap8, rfl, hk8⟩, hb7⟩ := hn7
                  have BW7 := b_call BW6 hb7
                  have T87 := slOk_new hk8
                  clear hk8
                  refine hK.out _ _ (HW.out _ BW7) (fun hHeld => ?_)
                  clear hK K
                  (try simp only [Act.put, List.getElem_toArray, List.getElem_cons_succ, List.getElem_cons_zero, List.setIfInBounds_toArray, List.set_cons_zero, List.set_cons_succ])
                  have R77 := readR_below R76 hb7; have T77 := slOk_keep T76 (keepT_ty (keepT_below hb7) (Or.inl rfl))
                  have KE7 := blk_below KE6 hb7; have TE7 := tyB_call TE6 hb7
                  clear R76 T76 KE6 TE6
                  (refine wpAnyH_take (i := 10) (v := ?_) rfl (by kernel_rfl) (by kernel_rfl) (by kernel_rfl) (fun _ _ _ h => h) (Or.inl ⟨by rfl, ?_⟩) hHeld ?_; rotate_left; (focus (intro w hSw; (try dsimp only at hSw); go_simp; try (with_reducible rfl))); (try simp only [Act.put, List.getElem_toArray, List.getElem_cons_succ, List.getElem_cons_zero, List.setIfInBounds_toArray, List.set_cons_zero, List.set_cons_succ]))
                  refine wpAnyH_ready (rs := [12]) (by kernel_rfl) (by simp) (AllReadyH.cons rfl (fun K hK => ?_) AllReadyH.nil)
                  obtain ⟨e0, e1, e2, e3, ef⟩ := blk4 KE7
                  go_simp
                  have BF : Below W5.heap.size W5 ((((q7.setCell ⟨q3.heap.size, 0, none⟩ (.slice (some ⟨k7, 0, none⟩) ps.length cap7)).setCell ⟨q3.heap.size, 1, none⟩ (.slice (some ⟨k8, 0, none⟩) ls.length cap8)).setCell ⟨q3.heap.size, 2, none⟩ (.int .i64 r)).setCell ⟨q3.heap.size, 3, none⟩ (.slice none 0 0)) := b_set (b_set (b_set (b_set BW7 XE _) XE _) XE _) XE _
                  have HBF := Lib.hid BF
                  have hm : ∀ (o : Nat) (u : Value) (w : World), tyB w (q3.heap.size) = some FUNT → KeepT w (w.setCell ⟨q3.heap.size, o, none⟩ u) := fun o u w h => keepT_set (p := ⟨q3.heap.size, o, none⟩) h (by decide) (by decide) u
                  have K9 : KeepT q7 ((((q7.setCell ⟨q3.heap.size, 0, none⟩ (.slice (some ⟨k7, 0, none⟩) ps.length cap7)).setCell ⟨q3.heap.size, 1, none⟩ (.slice (some ⟨k8, 0, none⟩) ls.length cap8)).setCell ⟨q3.heap.size, 2, none⟩ (.int .i64 r)).setCell ⟨q3.heap.size, 3, none⟩ (.slice none 0 0)) := keepT_trans (keepT_trans (keepT_trans (hm 0 _ _ TE7) (hm 1 _ _ (by rw [tyB_set]; exact TE7))) (hm 2 _ _ (by rw [tyB_set, tyB_set]; exact TE7))) (hm 3 _ _ (by rw [tyB_set, tyB_set, tyB_set]; exact TE7))
                  have FS : FunSt W5 ((((q7.setCell ⟨q3.heap.size, 0, none⟩ (.slice (some ⟨k7, 0, none⟩) ps.length cap7)).setCell ⟨q3.heap.size, 1, none⟩ (.slice (some ⟨k8, 0, none⟩) ls.length cap8)).setCell ⟨q3.heap.size, 2, none⟩ (.int .i64 r)).setCell ⟨q3.heap.size, 3, none⟩ (.slice none 0 0)) (q3.heap.size) ps ls r [] := ⟨⟨_, _, _⟩, ⟨_, _, _⟩, .slice none 0 0, readI_keep K9 T77 (readR_I R77), readI_keep K9 T87 (readR_I R87), slOk_keep T77 (keepT_ty K9 (Or.inl rfl)), slOk_keep T87 (keepT_ty K9 (Or.inl rfl)), ownR_nil _ _, blk_set (blk_set (blk_set (blk_set KE7 0 _) 1 _) 2 _) 3 _, by rw [tyB_set, tyB_set, tyB_set, tyB_set]; exact TE7, BF⟩
                  have HFS := Lib.hid FS
                  clear hm K9 FS BF e0 e1 e2 e3 ef
                  refine hK.out _ _ (HW.out _ HBF.out) (fun hHeld => ?_)
                  clear hK K
                  (try simp only [Act.put, List.getElem_toArray, List.getElem_cons_succ, List.getElem_cons_zero, List.setIfInBounds_toArray, List.set_cons_zero, List.set_cons_succ])
                  refine wpAnyH_done (by kernel_rfl) ?_ _
                  go_wp2_with fail
                  go_meet
                  case rel => exact ⟨_, rfl, XE, HFS.out⟩
              · go_simp
                refine hK.out _ _ (HW.out _ (b_alloc BW2 _)) (fun hHeld => ?_)
                clear hK K
                (try simp only [Act.put, List.getElem_toArray, List.getElem_cons_succ, List.getElem_cons_zero, List.setIfInBounds_toArray, List.set_cons_zero, List.set_cons_succ])
                refine wpAnyH_named ?_
                intro q8 hq8
                have hb8 : Below q2.heap.size q2 q8 := by rw [hq8]; exact b_alloc (Below.refl _ _) _
                have BW8 := b_call BW2 hb8
                have KE8 : Blk q8 q2.heap.size [.slice none 0 0, .slice none 0 0, .int .i64 0, .slice none 0 0] := by rw [hq8]; exact blk_new _ _ _
                have TE8 : tyB q8 q2.heap.size = some FUNT := by rw [hq8]; exact tyB_new _ _ _
                have XE := BW2.size
                have R78 := readR_below R72 hb8; have T78 := slOk_keep T72 (keepT_ty (keepT_below hb8) (Or.inl rfl))
                clear R72 T72
                clear hq8
                replace hHeld := HW.out _ BW8
                refine wpAnyH_ready (rs := [4]) (by kernel_rfl) (by simp) (AllReadyH.cons rfl (fun K hK => ?_) AllReadyH.nil)
                go_simp
                refine hK.out _ _ (HW.out _ (b_alloc BW8 _)) (fun hHeld => ?_)
                clear hK K
                (try simp only [Act.put, List.getElem_toArray, List.getElem_cons_succ, List.getElem_cons_zero, List.setIfInBounds_toArray, List.set_cons_zero, List.set_cons_succ])
                refine wpAnyH_named ?_
                intro q9 hq9
                have hb9 : Below q8.heap.size q8 q9 := by rw [hq9]; exact b_alloc (Below.refl _ _) _
                have BW9 := b_call BW8 hb9
                have R79 := readR_below R78 hb9; have T79 := slOk_keep T78 (keepT_ty (keepT_below hb9) (Or.inl rfl))
                have KE9 := blk_below KE8 hb9; have TE9 := tyB_call TE8 hb9
                clear R78 T78 KE8 TE8
                clear hq9
                replace hHeld := HW.out _ BW9
                refine wpAnyH_ready (rs := [7]) (by kernel_rfl) (by simp) (AllReadyH.cons rfl (fun K hK => ?_) AllReadyH.nil)
                refine step_appendNew (c := intE) rowInt (by rfl) _ _ (by rfl) _ (by rfl) _ ls (by rfl) (readR_below HL5.out BW9) (by omega) (by unfold maxLen; omega) ?_
                intro v10 q10 hn10
                obtain ⟨R810, ⟨k8, cap8, rfl, hk8⟩, hb10⟩ := hn10
                have BW10 := b_call BW9 hb10
                have T810 := slOk_new hk8
                clear hk8
                refine hK.out _ _ (HW.out _ BW10) (fun hHeld => ?_)
                clear hK K
                (try simp only [Act.put, List.getElem_toArray, List.getElem_cons_succ, List.getElem_cons_zero, List.setIfInBounds_toArray, List.set_cons_zero, List.set_cons_succ])
                have R710 := readR_below R79 hb10; have T710 := slOk_keep T79 (keepT_ty (keepT_below hb10) (Or.inl rfl))
                have KE10 := blk_below KE9 hb10; have TE10 := tyB_call TE9 hb10
                clear R79 T79 KE9 TE9
                (refine wpAnyH_take (i := 10) (v := ?_) rfl (by kernel_rfl) (by kernel_rfl) (by kernel_rfl) (fun _ _ _ h => h) (Or.inl ⟨by rfl, ?_⟩) hHeld ?_; rotate_left; (focus (intro w hSw; (try dsimp only at hSw); go_simp; try (with_reducible rfl))); (try simp only [Act.put, List.getElem_toArray, List.getElem_cons_succ, List.getElem_cons_zero, List.setIfInBounds_toArray, List.set_cons_zero, List.set_cons_succ]))
                refine wpAnyH_ready (rs := [12]) (by kernel_rfl) (by simp) (AllReadyH.cons rfl (fun K hK => ?_) AllReadyH.nil)
                obtain ⟨e0, e1, e2, e3, ef⟩ := blk4 KE10
                go_simp
                have BF : Below W5.heap.size W5 ((((q10.setCell ⟨q2.heap.size, 0, none⟩ (.slice (some ⟨k7, 0, none⟩) ps.length cap7)).setCell ⟨q2.heap.size, 1, none⟩ (.slice (some ⟨k8, 0, none⟩) ls.length cap8)).setCell ⟨q2.heap.size, 2, none⟩ (.int .i64 r)).setCell ⟨q2.heap.size, 3, none⟩ (.slice none 0 0)) := b_set (b_set (b_set (b_set BW10 XE _) XE _) XE _) XE _
                have HBF := Lib.hid BF
                have hm : ∀ (o : Nat) (u : Value) (w : World), tyB w (q2.heap.size) = some FUNT → KeepT w (w.setCell ⟨q2.heap.size, o, none⟩ u) := fun o u w h => keepT_set (p := ⟨q2.heap.size, o, none⟩) h (by decide) (by decide) u
                have K9 : KeepT q10 ((((q10.setCell ⟨q2.heap.size, 0, none⟩ (.slice (some ⟨k7, 0, none⟩) ps.length cap7)).setCell ⟨q2.heap.size, 1, none⟩ (.slice (some ⟨k8, 0, none⟩) ls.length cap8)).setCell ⟨q2.heap.size, 2, none⟩ (.int .i64 r)).setCell ⟨q2.heap.size, 3, none⟩ (.slice none 0 0)) := keepT_trans (keepT_trans (keepT_trans (hm 0 _ _ TE10) (hm 1 _ _ (by rw [tyB_set]; exact TE10))) (hm 2 _ _ (by rw [tyB_set, tyB_set]; exact TE10))) (hm 3 _ _ (by rw [tyB_set, tyB_set, tyB_set]; exact TE10))
                have FS : FunSt W5 ((((q10.setCell ⟨q2.heap.size, 0, none⟩ (.slice (some ⟨k7, 0, none⟩) ps.length cap7)).setCell ⟨q2.heap.size, 1, none⟩ (.slice (some ⟨k8, 0, none⟩) ls.length cap8)).setCell ⟨q2.heap.size, 2, none⟩ (.int .i64 r)).setCell ⟨q2.heap.size, 3, none⟩ (.slice none 0 0)) (q2.heap.size) ps ls r [] := ⟨⟨_, _, _⟩, ⟨_, _, _⟩, .slice none 0 0, readI_keep K9 T710 (readR_I R710), readI_keep K9 T810 (readR_I R810), slOk_keep T710 (keepT_ty K9 (Or.inl rfl)), slOk_keep T810 (keepT_ty K9 (Or.inl rfl)), ownR_nil _ _, blk_set (blk_set (blk_set (blk_set KE10 0 _) 1 _) 2 _) 3 _, by rw [tyB_set, tyB_set, tyB_set, tyB_set]; exact TE10, BF⟩
                have HFS := Lib.hid FS
                clear hm K9 FS BF e0 e1 e2 e3 ef
                refine hK.out _ _ (HW.out _ HBF.out) (fun hHeld => ?_)
                clear hK K
                (try simp only [Act.put, List.getElem_toArray, List.getElem_cons_succ, List.getElem_cons_zero, List.setIfInBounds_toArray, List.set_cons_zero, List.set_cons_succ])
                refine wpAnyH_done (by kernel_rfl) ?_ _
                go_wp2_with fail
                go_meet
                case rel => exact ⟨_, rfl, XE, HFS.out⟩
            · go_simp
              refine hK.out _ _ (HW.out _ (b_alloc BW1 _)) (fun hHeld => ?_)
              clear hK K
              (try simp only [Act.put, List.getElem_toArray, List.getElem_cons_succ, List.getElem_cons_zero, List.setIfInBounds_toArray, List.set_cons_zero, List.set_cons_succ])
              refine wpAnyH_named ?_
              intro q11 hq11
              have hb11 : Below q1.heap.size q1 q11 := by rw [hq11]; exact b_alloc (Below.refl _ _) _
              have BW11 := b_call BW1 hb11
              clear hq11
              replace hHeld := HW.out _ BW11
              refine wpAnyH_ready (rs := [3, 11]) (by kernel_rfl) (by simp) (AllReadyH.cons rfl (fun K hK => ?_) (AllReadyH.cons rfl (fun K hK => ?_) AllReadyH.nil))
              · refine step_appendNew (c := intE) rowInt (by rfl) _ _ (by rfl) _ (by rfl) _ ps (by rfl) (readR_below HP5.out BW11) (by omega) (by unfold maxLen; omega) ?_
                intro v12 q12 hn12
                obtain ⟨R712, ⟨k7, cap7, rfl, hk7⟩, hb12⟩ := hn12
                have BW12 := b_call BW11 hb12
                have T712 := slOk_new hk7
                clear hk7
                refine hK.out _ _ (HW.out _ BW12) (fun hHeld => ?_)
                clear hK K
                (try simp only [Act.put, List.getElem_toArray, List.getElem_cons_succ, List.getElem_cons_zero, List.setIfInBounds_toArray, List.set_cons_zero, List.set_cons_succ])
                refine wpAnyH_ready (rs := [7, 11]) (by kernel_rfl) (by simp) (AllReadyH.cons rfl (fun K hK => ?_) (AllReadyH.cons rfl (fun K hK => ?_) AllReadyH.nil))
                · refine step_appendNew (c := intE) rowInt (by rfl) _ _ (by rfl) _ (by rfl) _ ls (by rfl) (readR_below HL5.out BW12) (by omega) (by unfold maxLen; omega) ?_
                  intro v13 q13 hn13
                  obtain ⟨R813, ⟨k8, cap8, rfl, hk8⟩, hb13⟩ := hn13
                  have BW13 := b_call BW12 hb13
                  have T813 := slOk_new hk8
                  clear hk8
                  refine hK.out _ _ (HW.out _ BW13) (fun hHeld => ?_)
                  clear hK K
                  (try simp only [Act.put, List.getElem_toArray, List.getElem_cons_succ, List.getElem_cons_zero, List.setIfInBounds_toArray, List.set_cons_zero, List.set_cons_succ])
                  have R713 := readR_below R712 hb13; have T713 := slOk_keep T712 (keepT_ty (keepT_below hb13) (Or.inl rfl))
                  clear R712 T712
                  (refine wpAnyH_take (i := 10) (v := ?_) rfl (by kernel_rfl) (by kernel_rfl) (by kernel_rfl) (fun _ _ _ h => h) (Or.inl ⟨by rfl, ?_⟩) hHeld ?_; rotate_left; (focus (intro w hSw; (try dsimp only at hSw); go_simp; try (with_reducible rfl))); (try simp only [Act.put, List.getElem_toArray, List.getElem_cons_succ, List.getElem_cons_zero, List.setIfInBounds_toArray, List.set_cons_zero, List.set_cons_succ]))
                  refine wpAnyH_ready (rs := [11]) (by kernel_rfl) (by simp) (AllReadyH.cons rfl (fun K hK => ?_) AllReadyH.nil)
                  go_simp
                  refine hK.out _ _ (HW.out _ (b_alloc BW13 _)) (fun hHeld => ?_)
                  clear hK K
                  (try simp only [Act.put, List.getElem_toArray, List.getElem_cons_succ, List.getElem_cons_zero, List.setIfInBounds_toArray, List.set_cons_zero, List.set_cons_succ])
                  refine wpAnyH_named ?_
                  intro q14 hq14
                  have hb14 : Below q13.heap.size q13 q14 := by rw [hq14]; exact b_alloc (Below.refl _ _) _
                  have BW14 := b_call BW13 hb14
                  have KE14 : Blk q14 q13.heap.size [.slice none 0 0, .slice none 0 0, .int .i64 0, .slice none 0 0] := by rw [hq14]; exact blk_new _ _ _
                  have TE14 : tyB q14 q13.heap.size = some FUNT := by rw [hq14]; exact tyB_new _ _ _
                  have XE := BW13.size
                  have R714 := readR_below R713 hb14; have T714 := slOk_keep T713 (keepT_ty (keepT_below hb14) (Or.inl rfl))
                  have R814 := readR_below R813 hb14; have T814 := slOk_keep T813 (keepT_ty (keepT_below hb14) (Or.inl rfl))
                  clear R713 T713 R813 T813
                  clear hq14
                  replace hHeld := HW.out _ BW14
                  refine wpAnyH_ready (rs := [12]) (by kernel_rfl) (by simp) (AllReadyH.cons rfl (fun K hK => ?_) AllReadyH.nil)
                  obtain ⟨e0, e1, e2, e3, ef⟩ := blk4 KE14
                  go_simp
                  have BF : Below W5.heap.size W5 ((((q14.setCell ⟨q13.heap.size, 0, none⟩ (.slice (some ⟨k7, 0, none⟩) ps.length cap7)).setCell ⟨q13.heap.size, 1, none⟩ (.slice (some ⟨k8, 0, none⟩) ls.length cap8)).setCell ⟨q13.heap.size, 2, none⟩ (.int .i64 r)).setCell ⟨q13.heap.size, 3, none⟩ (.slice none 0 0)) := b_set (b_set (b_set (b_set BW14 XE _) XE _) XE _) XE _
                  have HBF := Lib.hid BF
                  have hm : ∀ (o : Nat) (u : Value) (w : World), tyB w (q13.heap.size) = some FUNT → KeepT w (w.setCell ⟨q13.heap.size, o, none⟩ u) := fun o u w h => keepT_set (p := ⟨q13.heap.size, o, none⟩) h (by decide) (by decide) u
                  have K9 : KeepT q14 ((((q14.setCell ⟨q13.heap.size, 0, none⟩ (.slice (some ⟨k7, 0, none⟩) ps.length cap7)).setCell ⟨q13.heap.size, 1, none⟩ (.slice (some ⟨k8, 0, none⟩) ls.length cap8)).setCell ⟨q13.heap.size, 2, none⟩ (.int .i64 r)).setCell ⟨q13.heap.size, 3, none⟩ (.slice none 0 0)) := keepT_trans (keepT_trans (keepT_trans (hm 0 _ _ TE14) (hm 1 _ _ (by rw [tyB_set]; exact TE14))) (hm 2 _ _ (by rw [tyB_set, tyB_set]; exact TE14))) (hm 3 _ _ (by rw [tyB_set, tyB_set, tyB_set]; exact TE14))
                  have FS : FunSt W5 ((((q14.setCell ⟨q13.heap.size, 0, none⟩ (.slice (some ⟨k7, 0, none⟩) ps.length cap7)).setCell ⟨q13.heap.size, 1, none⟩ (.slice (some ⟨k8, 0, none⟩) ls.length cap8)).setCell ⟨q13.heap.size, 2, none⟩ (.int .i64 r)).setCell ⟨q13.heap.size, 3, none⟩ (.slice none 0 0)) (q13.heap.size) ps ls r [] := ⟨⟨_, _, _⟩, ⟨_, _, _⟩, .slice none 0 0, readI_keep K9 T714 (readR_I R714), readI_keep K9 T814 (readR_I R814), slOk_keep T714 (keepT_ty K9 (Or.inl rfl)), slOk_keep T814 (keepT_ty K9 (Or.inl rfl)), ownR_nil _ _, blk_set (blk_set (blk_set (blk_set KE14 0 _) 1 _) 2 _) 3 _, by rw [tyB_set, tyB_set, tyB_set, tyB_set]; exact TE14, BF⟩
                  have HFS := Lib.hid FS
                  clear hm K9 FS BF e0 e1 e2 e3 ef
                  refine hK.out _ _ (HW.out _ HBF.out) (fun hHeld => ?_)
                  clear hK K
                  (try simp only [Act.put, List.getElem_toArray, List.getElem_cons_succ, List.getElem_cons_zero, List.setIfInBounds_toArray, List.set_cons_zero, List.set_cons_succ])
                  refine wpAnyH_done (by kernel_rfl) ?_ _
                  go_wp2_with fail
                  go_meet
                  case rel => exact ⟨_, rfl, XE, HFS.out⟩
                · go_simp
                  refine hK.out _ _ (HW.out _ (b_alloc BW12 _)) (fun hHeld => ?_)
                  clear hK K
                  (try simp only [Act.put, List.getElem_toArray, List.getElem_cons_succ, List.getElem_cons_zero, List.setIfInBounds_toArray, List.set_cons_zero, List.set_cons_succ])
                  refine wpAnyH_named ?_
                  intro q15 hq15
                  have hb15 : Below q12.heap.size q12 q15 := by rw [hq15]; exact b_alloc (Below.refl _ _) _
                  have BW15 := b_call BW12 hb15
                  have KE15 : Blk q15 q12.heap.size [.slice none 0 0, .slice none 0 0, .int .i64 0, .slice none 0 0] := by rw [hq15]; exact blk_new _ _ _
                  have TE15 : tyB q15 q12.heap.size = some FUNT := by rw [hq15]; exact tyB_new _ _ _
                  have XE := BW12.size
                  have R715 := readR_below R712 hb15; have T715 := slOk_keep T712 (keepT_ty (keepT_below hb15) (Or.inl rfl))
                  clear R712 T712
                  clear hq15
                  replace hHeld := HW.out _ BW15
                  refine wpAnyH_ready (rs := [7]) (by kernel_rfl) (by simp) (AllReadyH.cons rfl (fun K hK => ?_) AllReadyH.nil)
                  refine step_appendNew (c := intE) rowInt (by rfl) _ _ (by rfl) _ (by rfl) _ ls (by rfl) (readR_below HL5.out BW15) (by omega) (by unfold maxLen; omega) ?_
                  intro v16 q16 hn16
                  obtain ⟨R816, ⟨k8, cap8, rfl, hk8⟩, hb16⟩ := hn16
                  have BW16 := b_call BW15 hb16
                  have T816 := slOk_new hk8
                  clear hk8
                  refine hK.out _ _ (HW.out _ BW16) (fun hHeld => ?_)
                  clear hK K
                  (try simp only [Act.put, List.getElem_toArray, List.getElem_cons_succ, List.getElem_cons_zero, List.setIfInBounds_toArray, List.set_cons_zero, List.set_cons_succ])
                  have R716 := readR_below R715 hb16; have T716 := slOk_keep T715 (keepT_ty (keepT_below hb16) (Or.inl rfl))
                  have KE16 := blk_below KE15 hb16; have TE16 := tyB_call TE15 hb16
                  clear R715 T715 KE15 TE15
                  (refine wpAnyH_take (i := 10) (v := ?_) rfl (by kernel_rfl) (by kernel_rfl) (by kernel_rfl) (fun _ _ _ h => h) (Or.inl ⟨by rfl, ?_⟩) hHeld ?_; rotate_left; (focus (intro w hSw; (try dsimp only at hSw); go_simp; try (with_reducible rfl))); (try simp only [Act.put, List.getElem_toArray, List.getElem_cons_succ, List.getElem_cons_zero, List.setIfInBounds_toArray, List.set_cons_zero, List.set_cons_succ]))
                  refine wpAnyH_ready (rs := [12]) (by kernel_rfl) (by simp) (AllReadyH.cons rfl (fun K hK => ?_) AllReadyH.nil)
                  obtain ⟨e0, e1, e2, e3, ef⟩ := blk4 KE16
                  go_simp
                  have BF : Below W5.heap.size W5 ((((q16.setCell ⟨q12.heap.size, 0, none⟩ (.slice (some ⟨k7, 0, none⟩) ps.length cap7)).setCell ⟨q12.heap.size, 1, none⟩ (.slice (some ⟨k8, 0, none⟩) ls.length cap8)).setCell ⟨q12.heap.size, 2, none⟩ (.int .i64 r)).setCell ⟨q12.heap.size, 3, none⟩ (.slice none 0 0)) := b_set (b_set (b_set (b_set BW16 XE _) XE _) XE _) XE _
                  have HBF := Lib.hid BF
                  have hm : ∀ (o : Nat) (u : Value) (w : World), tyB w (q12.heap.size) = some FUNT → KeepT w (w.setCell ⟨q12.heap.size, o, none⟩ u) := fun o u w h => keepT_set (p := ⟨q12.heap.size, o, none⟩) h (by decide) (by decide) u
                  have K9 : KeepT q16 ((((q16.setCell ⟨q12.heap.size, 0, none⟩ (.slice (some ⟨k7, 0, none⟩) ps.length cap7)).setCell ⟨q12.heap.size, 1, none⟩ (.slice (some ⟨k8, 0, none⟩) ls.length cap8)).setCell ⟨q12.heap.size, 2, none⟩ (.int .i64 r)).setCell ⟨q12.heap.size, 3, none⟩ (.slice none 0 0)) := keepT_trans (keepT_trans (keepT_trans (hm 0 _ _ TE16) (hm 1 _ _ (by rw [tyB_set]; exact TE16))) (hm 2 _ _ (by rw [tyB_set, tyB_set]; exact TE16))) (hm 3 _ _ (by rw [tyB_set, tyB_set, tyB_set]; exact TE16))
                  have FS : FunSt W5 ((((q16.setCell ⟨q12.heap.size, 0, none⟩ (.slice (some ⟨k7, 0, none⟩) ps.length cap7)).setCell ⟨q12.heap.size, 1, none⟩ (.slice (some ⟨k8, 0, none⟩) ls.length cap8)).setCell ⟨q12.heap.size, 2, none⟩ (.int .i64 r)).setCell ⟨q12.heap.size, 3, none⟩ (.slice none 0 0)) (q12.heap.size) ps ls r [] := ⟨⟨_, _, _⟩, ⟨_, _, _⟩, .slice none 0 0, readI_keep K9 T716 (readR_I R716), readI_keep K9 T816 (readR_I R816), slOk_keep T716 (keepT_ty K9 (Or.inl rfl)), slOk_keep T816 (keepT_ty K9 (Or.inl rfl)), ownR_nil _ _, blk_set (blk_set (blk_set (blk_set KE16 0 _) 1 _) 2 _) 3 _, by rw [tyB_set, tyB_set, tyB_set, tyB_set]; exact TE16, BF⟩
                  have HFS := Lib.hid FS
                  clear hm K9 FS BF e0 e1 e2 e3 ef
                  refine hK.out _ _ (HW.out _ HBF.out) (fun hHeld => ?_)
                  clear hK K
                  (try simp only [Act.put, List.getElem_toArray, List.getElem_cons_succ, List.getElem_cons_zero, List.setIfInBounds_toArray, List.set_cons_zero, List.set_cons_succ])
                  refine wpAnyH_done (by kernel_rfl) ?_ _
                  go_wp2_with fail
                  go_meet
                  case rel => exact ⟨_, rfl, XE, HFS.out⟩
              · go_simp
                refine hK.out _ _ (HW.out _ (b_alloc BW11 _)) (fun hHeld => ?_)
                clear hK K
                (try simp only [Act.put, List.getElem_toArray, List.getElem_cons_succ, List.getElem_cons_zero, List.setIfInBounds_toArray, List.set_cons_zero, List.set_cons_succ])
                refine wpAnyH_named ?_
                intro q17 hq17
                have hb17 : Below q11.heap.size q11 q17 := by rw [hq17]; exact b_alloc (Below.refl _ _) _
                have BW17 := b_call BW11 hb17
                have KE17 : Blk q17 q11.heap.size [.slice none 0 0, .slice none 0 0, .int .i64 0, .slice none 0 0] := by rw [hq17]; exact blk_new _ _ _
                have TE17 : tyB q17 q11.heap.size = some FUNT := by rw [hq17]; exact tyB_new _ _ _
                have XE := BW11.size
                clear hq17
                replace hHeld := HW.out _ BW17
                refine wpAnyH_ready (rs := [3]) (by kernel_rfl) (by simp) (AllReadyH.cons rfl (fun K hK => ?_) AllReadyH.nil)
                refine step_appendNew (c := intE) rowInt (by rfl) _ _ (by rfl) _ (by rfl) _ ps (by rfl) (readR_below HP5.out BW17) (by omega) (by unfold maxLen; omega) ?_
                intro v18 q18 hn18
                obtain ⟨R718, ⟨k7, cap7, rfl, hk7⟩, hb18⟩ := hn18
                have BW18 := b_call BW17 hb18
                have T718 := slOk_new hk7
                clear hk7
                refine hK.out _ _ (HW.out _ BW18) (fun hHeld => ?_)
                clear hK K
                (try simp only [Act.put, List.getElem_toArray, List.getElem_cons_succ, List.getElem_cons_zero, List.setIfInBounds_toArray, List.set_cons_zero, List.set_cons_succ])
                have KE18 := blk_below KE17 hb18; have TE18 := tyB_call TE17 hb18
                clear KE17 TE17
                refine wpAnyH_ready (rs := [7]) (by kernel_rfl) (by simp) (AllReadyH.cons rfl (fun K hK => ?_) AllReadyH.nil)
                refine step_appendNew (c := intE) rowInt (by rfl) _ _ (by rfl) _ (by rfl) _ ls (by rfl) (readR_below HL5.out BW18) (by omega) (by unfold maxLen; omega) ?_
                intro v19 q19 hn19
                obtain ⟨R819, ⟨k8, cap8, rfl, hk8⟩, hb19⟩ := hn19
                have BW19 := b_call BW18 hb19
                have T819 := slOk_new hk8
                clear hk8
                refine hK.out _ _ (HW.out _ BW19) (fun hHeld => ?_)
                clear hK K
                (try simp only [Act.put, List.getElem_toArray, List.getElem_cons_succ, List.getElem_cons_zero, List.setIfInBounds_toArray, List.set_cons_zero, List.set_cons_succ])
                have KE19 := blk_below KE18 hb19; have TE19 := tyB_call TE18 hb19
                have R719 := readR_below R718 hb19; have T719 := slOk_keep T718 (keepT_ty (keepT_below hb19) (Or.inl rfl))
                clear KE18 TE18 R718 T718
                (refine wpAnyH_take (i := 10) (v := ?_) rfl (by kernel_rfl) (by kernel_rfl) (by kernel_rfl) (fun _ _ _ h => h) (Or.inl ⟨by rfl, ?_⟩) hHeld ?_; rotate_left; (focus (intro w hSw; (try dsimp only at hSw); go_simp; try (with_reducible rfl))); (try simp only [Act.put, List.getElem_toArray, List.getElem_cons_succ, List.getElem_cons_zero, List.setIfInBounds_toArray, List.set_cons_zero, List.set_cons_succ]))
                refine wpAnyH_ready (rs := [12]) (by kernel_rfl) (by simp) (AllReadyH.cons rfl (fun K hK => ?_) AllReadyH.nil)
                obtain ⟨e0, e1, e2, e3, ef⟩ := blk4 KE19
                go_simp
                have BF : Below W5.heap.size W5 ((((q19.setCell ⟨q11.heap.size, 0, none⟩ (.slice (some ⟨k7, 0, none⟩) ps.length cap7)).setCell ⟨q11.heap.size, 1, none⟩ (.slice (some ⟨k8, 0, none⟩) ls.length cap8)).setCell ⟨q11.heap.size, 2, none⟩ (.int .i64 r)).setCell ⟨q11.heap.size, 3, none⟩ (.slice none 0 0)) := b_set (b_set (b_set (b_set BW19 XE _) XE _) XE _) XE _
                have HBF := Lib.hid BF
                have hm : ∀ (o : Nat) (u : Value) (w : World), tyB w (q11.heap.size) = some FUNT → KeepT w (w.setCell ⟨q11.heap.size, o, none⟩ u) := fun o u w h => keepT_set (p := ⟨q11.heap.size, o, none⟩) h (by decide) (by decide) u
                have K9 : KeepT q19 ((((q19.setCell ⟨q11.heap.size, 0, none⟩ (.slice (some ⟨k7, 0, none⟩) ps.length cap7)).setCell ⟨q11.heap.size, 1, none⟩ (.slice (some ⟨k8, 0, none⟩) ls.length cap8)).setCell ⟨q11.heap.size, 2, none⟩ (.int .i64 r)).setCell ⟨q11.heap.size, 3, none⟩ (.slice none 0 0)) := keepT_trans (keepT_trans (keepT_trans (hm 0 _ _ TE19) (hm 1 _ _ (by rw [tyB_set]; exact TE19))) (hm 2 _ _ (by rw [tyB_set, tyB_set]; exact TE19))) (hm 3 _ _ (by rw [tyB_set, tyB_set, tyB_set]; exact TE19))
                have FS : FunSt W5 ((((q19.setCell ⟨q11.heap.size, 0, none⟩ (.slice (some ⟨k7, 0, none⟩) ps.length cap7)).setCell ⟨q11.heap.size, 1, none⟩ (.slice (some ⟨k8, 0, none⟩) ls.length cap8)).setCell ⟨q11.heap.size, 2, none⟩ (.int .i64 r)).setCell ⟨q11.heap.size, 3, none⟩ (.slice none 0 0)) (q11.heap.size) ps ls r [] := ⟨⟨_, _, _⟩, ⟨_, _, _⟩, .slice none 0 0, readI_keep K9 T719 (readR_I R719), readI_keep K9 T819 (readR_I R819), slOk_keep T719 (keepT_ty K9 (Or.inl rfl)), slOk_keep T819 (keepT_ty K9 (Or.inl rfl)), ownR_nil _ _, blk_set (blk_set (blk_set (blk_set KE19 0 _) 1 _) 2 _) 3 _, by rw [tyB_set, tyB_set, tyB_set, tyB_set]; exact TE19, BF⟩
                have HFS := Lib.hid FS
                clear hm K9 FS BF e0 e1 e2 e3 ef
                refine hK.out _ _ (HW.out _ HBF.out) (fun hHeld => ?_)
                clear hK K
                (try simp only [Act.put, List.getElem_toArray, List.getElem_cons_succ, List.getElem_cons_zero, List.setIfInBounds_toArray, List.set_cons_zero, List.set_cons_succ])
                refine wpAnyH_done (by kernel_rfl) ?_ _
                go_wp2_with fail
                go_meet
                case rel => exact ⟨_, rfl, XE, HFS.out⟩
            · go_simp
              refine hK.out _ _ (HW.out _ (b_alloc BW1 _)) (fun hHeld => ?_)
              clear hK K
              (try simp only [Act.put, List.getElem_toArray, List.getElem_cons_succ, List.getElem_cons_zero, List.setIfInBounds_toArray, List.set_cons_zero, List.set_cons_succ])
              refine wpAnyH_named ?_
              intro q20 hq20
              have hb20 : Below q1.heap.size q1 q20 := by rw [hq20]; exact b_alloc (Below.refl _ _) _
              have BW20 := b_call BW1 hb20
              have KE20 : Blk q20 q1.heap.size [.slice none 0 0, .slice none 0 0, .int .i64 0, .slice none 0 0] := by rw [hq20]; exact blk_new _ _ _
              have TE20 : tyB q20 q1.heap.size = some FUNT := by rw [hq20]; exact tyB_new _ _ _
              have XE := BW1.size
              clear hq20
              replace hHeld := HW.out _ BW20
              refine wpAnyH_ready (rs := [3, 4]) (by kernel_rfl) (by simp) (AllReadyH.cons rfl (fun K hK => ?_) (AllReadyH.cons rfl (fun K hK => ?_) AllReadyH.nil))
              · refine step_appendNew (c := intE) rowInt (by rfl) _ _ (by rfl) _ (by rfl) _ ps (by rfl) (readR_below HP5.out BW20) (by omega) (by unfold maxLen; omega) ?_
                intro v21 q21 hn21
                obtain ⟨R721, ⟨k7, cap7, rfl, hk7⟩, hb21⟩ := hn21
                have BW21 := b_call BW20 hb21
                have T721 := slOk_new hk7
                clear hk7
                refine hK.out _ _ (HW.out _ BW21) (fun hHeld => ?_)
                clear hK K
                (try simp only [Act.put, List.getElem_toArray, List.getElem_cons_succ, List.getElem_cons_zero, List.setIfInBounds_toArray, List.set_cons_zero, List.set_cons_succ])
                have KE21 := blk_below KE20 hb21; have TE21 := tyB_call TE20 hb21
                clear KE20 TE20
                refine wpAnyH_ready (rs := [4]) (by kernel_rfl) (by simp) (AllReadyH.cons rfl (fun K hK => ?_) AllReadyH.nil)
                go_simp
                refine hK.out _ _ (HW.out _ (b_alloc BW21 _)) (fun hHeld => ?_)
                clear hK K
                (try simp only [Act.put, List.getElem_toArray, List.getElem_cons_succ, List.getElem_cons_zero, List.setIfInBounds_toArray, List.set_cons_zero, List.set_cons_succ])
                refine wpAnyH_named ?_
                intro q22 hq22
                have hb22 : Below q21.heap.size q21 q22 := by rw [hq22]; exact b_alloc (Below.refl _ _) _
                have BW22 := b_call BW21 hb22
                have KE22 := blk_below KE21 hb22; have TE22 := tyB_call TE21 hb22
                have R722 := readR_below R721 hb22; have T722 := slOk_keep T721 (keepT_ty (keepT_below hb22) (Or.inl rfl))
                clear KE21 TE21 R721 T721
                clear hq22
                replace hHeld := HW.out _ BW22
                refine wpAnyH_ready (rs := [7]) (by kernel_rfl) (by simp) (AllReadyH.cons rfl (fun K hK => ?_) AllReadyH.nil)
                refine step_appendNew (c := intE) rowInt (by rfl) _ _ (by rfl) _ (by rfl) _ ls (by rfl) (readR_below HL5.out BW22) (by omega) (by unfold maxLen; omega) ?_
                intro v23 q23 hn23
                obtain ⟨R823, ⟨k8, cap8, rfl, hk8⟩, hb23⟩ := hn23
                have BW23 := b_call BW22 hb23
                have T823 := slOk_new hk8
                clear hk8
                refine hK.out _ _ (HW.out _ BW23) (fun hHeld => ?_)
                clear hK K
                (try simp only [Act.put, List.getElem_toArray, List.getElem_cons_succ, List.getElem_cons_zero, List.setIfInBounds_toArray, List.set_cons_zero, List.set_cons_succ])
                have KE23 := blk_below KE22 hb23; have TE23 := tyB_call TE22 hb23
                have R723 := readR_below R722 hb23; have T723 := slOk_keep T722 (keepT_ty (keepT_below hb23) (Or.inl rfl))
                clear KE22 TE22 R722 T722
                (refine wpAnyH_take (i := 10) (v := ?_) rfl (by kernel_rfl) (by kernel_rfl) (by kernel_rfl) (fun _ _ _ h => h) (Or.inl ⟨by rfl, ?_⟩) hHeld ?_; rotate_left; (focus (intro w hSw; (try dsimp only at hSw); go_simp; try (with_reducible rfl))); (try simp only [Act.put, List.getElem_toArray, List.getElem_cons_succ, List.getElem_cons_zero, List.setIfInBounds_toArray, List.set_cons_zero, List.set_cons_succ]))
                refine wpAnyH_ready (rs := [12]) (by kernel_rfl) (by simp) (AllReadyH.cons rfl (fun K hK => ?_) AllReadyH.nil)
                obtain ⟨e0, e1, e2, e3, ef⟩ := blk4 KE23
                go_simp
                have BF : Below W5.heap.size W5 ((((q23.setCell ⟨q1.heap.size, 0, none⟩ (.slice (some ⟨k7, 0, none⟩) ps.length cap7)).setCell ⟨q1.heap.size, 1, none⟩ (.slice (some ⟨k8, 0, none⟩) ls.length cap8)).setCell ⟨q1.heap.size, 2, none⟩ (.int .i64 r)).setCell ⟨q1.heap.size, 3, none⟩ (.slice none 0 0)) := b_set (b_set (b_set (b_set BW23 XE _) XE _) XE _) XE _
                have HBF := Lib.hid BF
                have hm : ∀ (o : Nat) (u : Value) (w : World), tyB w (q1.heap.size) = some FUNT → KeepT w (w.setCell ⟨q1.heap.size, o, none⟩ u) := fun o u w h => keepT_set (p := ⟨q1.heap.size, o, none⟩) h (by decide) (by decide) u
                have K9 : KeepT q23 ((((q23.setCell ⟨q1.heap.size, 0, none⟩ (.slice (some ⟨k7, 0, none⟩) ps.length cap7)).setCell ⟨q1.heap.size, 1, none⟩ (.slice (some ⟨k8, 0, none⟩) ls.length cap8)).setCell ⟨q1.heap.size, 2, none⟩ (.int .i64 r)).setCell ⟨q1.heap.size, 3, none⟩ (.slice none 0 0)) := keepT_trans (keepT_trans (keepT_trans (hm 0 _ _ TE23) (hm 1 _ _ (by rw [tyB_set]; exact TE23))) (hm 2 _ _ (by rw [tyB_set, tyB_set]; exact TE23))) (hm 3 _ _ (by rw [tyB_set, tyB_set, tyB_set]; exact TE23))
                have FS : FunSt W5 ((((q23.setCell ⟨q1.heap.size, 0, none⟩ (.slice (some ⟨k7, 0, none⟩) ps.length cap7)).setCell ⟨q1.heap.size, 1, none⟩ (.slice (some ⟨k8, 0, none⟩) ls.length cap8)).setCell ⟨q1.heap.size, 2, none⟩ (.int .i64 r)).setCell ⟨q1.heap.size, 3, none⟩ (.slice none 0 0)) (q1.heap.size) ps ls r [] := ⟨⟨_, _, _⟩, ⟨_, _, _⟩, .slice none 0 0, readI_keep K9 T723 (readR_I R723), readI_keep K9 T823 (readR_I R823), slOk_keep T723 (keepT_ty K9 (Or.inl rfl)), slOk_keep T823 (keepT_ty K9 (Or.inl rfl)), ownR_nil _ _, blk_set (blk_set (blk_set (blk_set KE23 0 _) 1 _) 2 _) 3 _, by rw [tyB_set, tyB_set, tyB_set, tyB_set]; exact TE23, BF⟩
                have HFS := Lib.hid FS
                clear hm K9 FS BF e0 e1 e2 e3 ef
                refine hK.out _ _ (HW.out _ HBF.out) (fun hHeld => ?_)
                clear hK K
                (try simp only [Act.put, List.getElem_toArray, List.getElem_cons_succ, List.getElem_cons_zero, List.setIfInBounds_toArray, List.set_cons_zero, List.set_cons_succ])
                refine wpAnyH_done (by kernel_rfl) ?_ _
                go_wp2_with fail
                go_meet
                case rel => exact ⟨_, rfl, XE, HFS.out⟩
              · go_simp
                refine hK.out _ _ (HW.out _ (b_alloc BW20 _)) (fun hHeld => ?_)
                clear hK K
                (try simp only [Act.put, List.getElem_toArray, List.getElem_cons_succ, List.getElem_cons_zero, List.setIfInBounds_toArray, List.set_cons_zero, List.set_cons_succ])
                refine wpAnyH_named ?_
                intro q24 hq24
                have hb24 : Below q20.heap.size q20 q24 := by rw [hq24]; exact b_alloc (Below.refl _ _) _
                have BW24 := b_call BW20 hb24
                have KE24 := blk_below KE20 hb24; have TE24 := tyB_call TE20 hb24
                clear KE20 TE20
                clear hq24
                replace hHeld := HW.out _ BW24
                refine wpAnyH_ready (rs := [3]) (by kernel_rfl) (by simp) (AllReadyH.cons rfl (fun K hK => ?_) AllReadyH.nil)
                refine step_appendNew (c := intE) rowInt (by rfl) _ _ (by rfl) _ (by rfl) _ ps (by rfl) (readR_below HP5.out BW24) (by omega) (by unfold maxLen; omega) ?_
                intro v25 q25 hn25
                obtain ⟨R725, ⟨k7, cap7, rfl, hk7⟩, hb25⟩ := hn25
                have BW25 := b_call BW24 hb25
                have T725 := slOk_new hk7
                clear hk7
                refine hK.out _ _ (HW.out _ BW25) (fun hHeld => ?_)
                clear hK K
                (try simp only [Act.put, List.getElem_toArray, List.getElem_cons_succ, List.getElem_cons_zero, List.setIfInBounds_toArray, List.set_cons_zero, List.set_cons_succ])
                have KE25 := blk_below KE24 hb25; have TE25 := tyB_call TE24 hb25
                clear KE24 TE24
                refine wpAnyH_ready (rs := [7]) (by kernel_rfl) (by simp) (AllReadyH.cons rfl (fun K hK => ?_) AllReadyH.nil)
                refine step_appendNew (c := intE) rowInt (by rfl) _ _ (by rfl) _ (by rfl) _ ls (by rfl) (readR_below HL5.out BW25) (by omega) (by unfold maxLen; omega) ?_
                intro v26 q26 hn26
                obtain ⟨R826, ⟨k8, cap8, rfl, hk8⟩, hb26⟩ := hn26
                have BW26 := b_call BW25 hb26
                have T826 := slOk_new hk8
                clear hk8
                refine hK.out _ _ (HW.out _ BW26) (fun hHeld => ?_)
                clear hK K
                (try simp only [Act.put, List.getElem_toArray, List.getElem_cons_succ, List.getElem_cons_zero, List.setIfInBounds_toArray, List.set_cons_zero, List.set_cons_succ])
                have KE26 := blk_below KE25 hb26; have TE26 := tyB_call TE25 hb26
                have R726 := readR_below R725 hb26; have T726 := slOk_keep T725 (keepT_ty (keepT_below hb26) (Or.inl rfl))
                clear KE25 TE25 R725 T725
                (refine wpAnyH_take (i := 10) (v := ?_) rfl (by kernel_rfl) (by kernel_rfl) (by kernel_rfl) (fun _ _ _ h => h) (Or.inl ⟨by rfl, ?_⟩) hHeld ?_; rotate_left; (focus (intro w hSw; (try dsimp only at hSw); go_simp; try (with_reducible rfl))); (try simp only [Act.put, List.getElem_toArray, List.getElem_cons_succ, List.getElem_cons_zero, List.setIfInBounds_toArray, List.set_cons_zero, List.set_cons_succ]))
                refine wpAnyH_ready (rs := [12]) (by kernel_rfl) (by simp) (AllReadyH.cons rfl (fun K hK => ?_) AllReadyH.nil)
                obtain ⟨e0, e1, e2, e3, ef⟩ := blk4 KE26
                go_simp
                have BF : Below W5.heap.size W5 ((((q26.setCell ⟨q1.heap.size, 0, none⟩ (.slice (some ⟨k7, 0, none⟩) ps.length cap7)).setCell ⟨q1.heap.size, 1, none⟩ (.slice (some ⟨k8, 0, none⟩) ls.length cap8)).setCell ⟨q1.heap.size, 2, none⟩ (.int .i64 r)).setCell ⟨q1.heap.size, 3, none⟩ (.slice none 0 0)) := b_set (b_set (b_set (b_set BW26 XE _) XE _) XE _) XE _
                have HBF := Lib.hid BF
                have hm : ∀ (o : Nat) (u : Value) (w : World), tyB w (q1.heap.size) = some FUNT → KeepT w (w.setCell ⟨q1.heap.size, o, none⟩ u) := fun o u w h => keepT_set (p := ⟨q1.heap.size, o, none⟩) h (by decide) (by decide) u
                have K9 : KeepT q26 ((((q26.setCell ⟨q1.heap.size, 0, none⟩ (.slice (some ⟨k7, 0, none⟩) ps.length cap7)).setCell ⟨q1.heap.size, 1, none⟩ (.slice (some ⟨k8, 0, none⟩) ls.length cap8)).setCell ⟨q1.heap.size, 2, none⟩ (.int .i64 r)).setCell ⟨q1.heap.size, 3, none⟩ (.slice none 0 0)) := keepT_trans (keepT_trans (keepT_trans (hm 0 _ _ TE26) (hm 1 _ _ (by rw [tyB_set]; exact TE26))) (hm 2 _ _ (by rw [tyB_set, tyB_set]; exact TE26))) (hm 3 _ _ (by rw [tyB_set, tyB_set, tyB_set]; exact TE26))
                have FS : FunSt W5 ((((q26.setCell ⟨q1.heap.size, 0, none⟩ (.slice (some ⟨k7, 0, none⟩) ps.length cap7)).setCell ⟨q1.heap.size, 1, none⟩ (.slice (some ⟨k8, 0, none⟩) ls.length cap8)).setCell ⟨q1.heap.size, 2, none⟩ (.int .i64 r)).setCell ⟨q1.heap.size, 3, none⟩ (.slice none 0 0)) (q1.heap.size) ps ls r [] := ⟨⟨_, _, _⟩, ⟨_, _, _⟩, .slice none 0 0, readI_keep K9 T726 (readR_I R726), readI_keep K9 T826 (readR_I R826), slOk_keep T726 (keepT_ty K9 (Or.inl rfl)), slOk_keep T826 (keepT_ty K9 (Or.inl rfl)), ownR_nil _ _, blk_set (blk_set (blk_set (blk_set KE26 0 _) 1 _) 2 _) 3 _, by rw [tyB_set, tyB_set, tyB_set, tyB_set]; exact TE26, BF⟩
                have HFS := Lib.hid FS
                clear hm K9 FS BF e0 e1 e2 e3 ef
                refine hK.out _ _ (HW.out _ HBF.out) (fun hHeld => ?_)
                clear hK K
                (try simp only [Act.put, List.getElem_toArray, List.getElem_cons_succ, List.getElem_cons_zero, List.setIfInBounds_toArray, List.set_cons_zero, List.set_cons_succ])
                refine wpAnyH_done (by kernel_rfl) ?_ _
                go_wp2_with fail
                go_meet
                case rel => exact ⟨_, rfl, XE, HFS.out⟩
          · go_simp
            refine hK.out _ _ (HW.out _ (b_alloc BW0 _)) (fun hHeld => ?_)
            clear hK K
            (try simp only [Act.put, List.getElem_toArray, List.getElem_cons_succ, List.getElem_cons_zero, List.setIfInBounds_toArray, List.set_cons_zero, List.set_cons_succ])
            refine wpAnyH_named ?_
            intro q27 hq27
            have hb27 : Below q0.heap.size q0 q27 := by rw [hq27]; exact b_alloc (Below.refl _ _) _
            have BW27 := b_call BW0 hb27
            clear hq27
            replace hHeld := HW.out _ BW27
            refine wpAnyH_ready (rs := [0, 11]) (by kernel_rfl) (by simp) (AllReadyH.cons rfl (fun K hK => ?_) (AllReadyH.cons rfl (fun K hK => ?_) AllReadyH.nil))
            · go_simp
              refine hK.out _ _ (HW.out _ (b_alloc BW27 _)) (fun hHeld => ?_)
              clear hK K
              (try simp only [Act.put, List.getElem_toArray, List.getElem_cons_succ, List.getElem_cons_zero, List.setIfInBounds_toArray, List.set_cons_zero, List.set_cons_succ])
              refine wpAnyH_named ?_
              intro q28 hq28
              have hb28 : Below q27.heap.size q27 q28 := by rw [hq28]; exact b_alloc (Below.refl _ _) _
              have BW28 := b_call BW27 hb28
              clear hq28
              replace hHeld := HW.out _ BW28
              refine wpAnyH_ready (rs := [3, 11]) (by kernel_rfl) (by simp) (AllReadyH.cons rfl (fun K hK => ?_) (AllReadyH.cons rfl (fun K hK => ?_) AllReadyH.nil))
              · refine step_appendNew (c := intE) rowInt (by rfl) _ _ (by rfl) _ (by rfl) _ ps (by rfl) (readR_below HP5.out BW28) (by omega) (by unfold maxLen; omega) ?_
                intro v29 q29 hn29
                obtain ⟨R729, ⟨k7, cap7, rfl, hk7⟩, hb29⟩ := hn29
                have BW29 := b_call BW28 hb29
                have T729 := slOk_new hk7
                clear hk7
                refine hK.out _ _ (HW.out _ BW29) (fun hHeld => ?_)
                clear hK K
                (try simp only [Act.put, List.getElem_toArray, List.getElem_cons_succ, List.getElem_cons_zero, List.setIfInBounds_toArray, List.set_cons_zero, List.set_cons_succ])
                refine wpAnyH_ready (rs := [7, 11]) (by kernel_rfl) (by simp) (AllReadyH.cons rfl (fun K hK => ?_) (AllReadyH.cons rfl (fun K hK => ?_) AllReadyH.nil))
                · refine step_appendNew (c := intE) rowInt (by rfl) _ _ (by rfl) _ (by rfl) _ ls (by rfl) (readR_below HL5.out BW29) (by omega) (by unfold maxLen; omega) ?_
                  intro v30 q30 hn30
                  obtain ⟨R830, ⟨k8, cap8, rfl, hk8⟩, hb30⟩ := hn30
                  have BW30 := b_call BW29 hb30
                  have T830 := slOk_new hk8
                  clear hk8
                  refine hK.out _ _ (HW.out _ BW30) (fun hHeld => ?_)
                  clear hK K
                  (try simp only [Act.put, List.getElem_toArray, List.getElem_cons_succ, List.getElem_cons_zero, List.setIfInBounds_toArray, List.set_cons_zero, List.set_cons_succ])
                  have R730 := readR_below R729 hb30; have T730 := slOk_keep T729 (keepT_ty (keepT_below hb30) (Or.inl rfl))
                  clear R729 T729
                  (refine wpAnyH_take (i := 10) (v := ?_) rfl (by kernel_rfl) (by kernel_rfl) (by kernel_rfl) (fun _ _ _ h => h) (Or.inl ⟨by rfl, ?_⟩) hHeld ?_; rotate_left; (focus (intro w hSw; (try dsimp only at hSw); go_simp; try (with_reducible rfl))); (try simp only [Act.put, List.getElem_toArray, List.getElem_cons_succ, List.getElem_cons_zero, List.setIfInBounds_toArray, List.set_cons_zero, List.set_cons_succ]))
                  refine wpAnyH_ready (rs := [11]) (by kernel_rfl) (by simp) (AllReadyH.cons rfl (fun K hK => ?_) AllReadyH.nil)
                  go_simp
                  refine hK.out _ _ (HW.out _ (b_alloc BW30 _)) (fun hHeld => ?_)
                  clear hK K
                  (try simp only [Act.put, List.getElem_toArray, List.getElem_cons_succ, List.getElem_cons_zero, List.setIfInBounds_toArray, List.set_cons_zero, List.set_cons_succ])
                  refine wpAnyH_named ?_
                  intro q31 hq31
                  have hb31 : Below q30.heap.size q30 q31 := by rw [hq31]; exact b_alloc (Below.refl _ _) _
                  have BW31 := b_call BW30 hb31
                  have KE31 : Blk q31 q30.heap.size [.slice none 0 0, .slice none 0 0, .int .i64 0, .slice none 0 0] := by rw [hq31]; exact blk_new _ _ _
                  have TE31 : tyB q31 q30.heap.size = some FUNT := by rw [hq31]; exact tyB_new _ _ _
                  have XE := BW30.size
                  have R731 := readR_below R730 hb31; have T731 := slOk_keep T730 (keepT_ty (keepT_below hb31) (Or.inl rfl))
                  have R831 := readR_below R830 hb31; have T831 := slOk_keep T830 (keepT_ty (keepT_below hb31) (Or.inl rfl))
                  clear R730 T730 R830 T830
                  clear hq31
                  replace hHeld := HW.out _ BW31
                  refine wpAnyH_ready (rs := [12]) (by kernel_rfl) (by simp) (AllReadyH.cons rfl (fun K hK => ?_) AllReadyH.nil)
                  obtain ⟨e0, e1, e2, e3, ef⟩ := blk4 KE31
                  go_simp
                  have BF : Below W5.heap.size W5 ((((q31.setCell ⟨q30.heap.size, 0, none⟩ (.slice (some ⟨k7, 0, none⟩) ps.length cap7)).setCell ⟨q30.heap.size, 1, none⟩ (.slice (some ⟨k8, 0, none⟩) ls.length cap8)).setCell ⟨q30.heap.size, 2, none⟩ (.int .i64 r)).setCell ⟨q30.heap.size, 3, none⟩ (.slice none 0 0)) := b_set (b_set (b_set (b_set BW31 XE _) XE _) XE _) XE _
                  have HBF := Lib.hid BF
                  have hm : ∀ (o : Nat) (u : Value) (w : World), tyB w (q30.heap.size) = some FUNT → KeepT w (w.setCell ⟨q30.heap.size, o, none⟩ u) := fun o u w h => keepT_set (p := ⟨q30.heap.size, o, none⟩) h (by decide) (by decide) u
                  have K9 : KeepT q31 ((((q31.setCell ⟨q30.heap.size, 0, none⟩ (.slice (some ⟨k7, 0, none⟩) ps.length cap7)).setCell ⟨q30.heap.size, 1, none⟩ (.slice (some ⟨k8, 0, none⟩) ls.length cap8)).setCell ⟨q30.heap.size, 2, none⟩ (.int .i64 r)).setCell ⟨q30.heap.size, 3, none⟩ (.slice none 0 0)) := keepT_trans (keepT_trans (keepT_trans (hm 0 _ _ TE31) (hm 1 _ _ (by rw [tyB_set]; exact TE31))) (hm 2 _ _ (by rw [tyB_set, tyB_set]; exact TE31))) (hm 3 _ _ (by rw [tyB_set, tyB_set, tyB_set]; exact TE31))
                  have FS : FunSt W5 ((((q31.setCell ⟨q30.heap.size, 0, none⟩ (.slice (some ⟨k7, 0, none⟩) ps.length cap7)).setCell ⟨q30.heap.size, 1, none⟩ (.slice (some ⟨k8, 0, none⟩) ls.length cap8)).setCell ⟨q30.heap.size, 2, none⟩ (.int .i64 r)).setCell ⟨q30.heap.size, 3, none⟩ (.slice none 0 0)) (q30.heap.size) ps ls r [] := ⟨⟨_, _, _⟩, ⟨_, _, _⟩, .slice none 0 0, readI_keep K9 T731 (readR_I R731), readI_keep K9 T831 (readR_I R831), slOk_keep T731 (keepT_ty K9 (Or.inl rfl)), slOk_keep T831 (keepT_ty K9 (Or.inl rfl)), ownR_nil _ _, blk_set (blk_set (blk_set (blk_set KE31 0 _) 1 _) 2 _) 3 _, by rw [tyB_set, tyB_set, tyB_set, tyB_set]; exact TE31, BF⟩
                  have HFS := Lib.hid FS
                  clear hm K9 FS BF e0 e1 e2 e3 ef
                  refine hK.out _ _ (HW.out _ HBF.out) (fun hHeld => ?_)
                  clear hK K
                  (try simp only [Act.put, List.getElem_toArray, List.getElem_cons_succ, List.getElem_cons_zero, List.setIfInBounds_toArray, List.set_cons_zero, List.set_cons_succ])
                  refine wpAnyH_done (by kernel_rfl) ?_ _
                  go_wp2_with fail
                  go_meet
                  case rel => exact ⟨_, rfl, XE, HFS.out⟩
                · go_simp
                  refine hK.out _ _ (HW.out _ (b_alloc BW29 _)) (fun hHeld => ?_)
                  clear hK K
                  (try simp only [Act.put, List.getElem_toArray, List.getElem_cons_succ, List.getElem_cons_zero, List.setIfInBounds_toArray, List.set_cons_zero, List.set_cons_succ])
                  refine wpAnyH_named ?_
                  intro q32 hq32
                  have hb32 : Below q29.heap.size q29 q32 := by rw [hq32]; exact b_alloc (Below.refl _ _) _
                  have BW32 := b_call BW29 hb32
                  have KE32 : Blk q32 q29.heap.size [.slice none 0 0, .slice none 0 0, .int .i64 0, .slice none 0 0] := by rw [hq32]; exact blk_new _ _ _
                  have TE32 : tyB q32 q29.heap.size = some FUNT := by rw [hq32]; exact tyB_new _ _ _
                  have XE := BW29.size
                  have R732 := readR_below R729 hb32; have T732 := slOk_keep T729 (keepT_ty (keepT_below hb32) (Or.inl rfl))
                  clear R729 T729
                  clear hq32
                  replace hHeld := HW.out _ BW32
                  refine wpAnyH_ready (rs := [7]) (by kernel_rfl) (by simp) (AllReadyH.cons rfl (fun K hK => ?_) AllReadyH.nil)
                  refine step_appendNew (c := intE) rowInt (by rfl) _ _ (by rfl) _ (by rfl) _ ls (by rfl) (readR_below HL5.out BW32) (by omega) (by unfold maxLen; omega) ?_
                  intro v33 q33 hn33
                  obtain ⟨R833, ⟨k8, cap8, rfl, hk8⟩, hb33⟩ := hn33
                  have BW33 := b_call BW32 hb33
                  have T833 := slOk_new hk8
                  clear hk8
                  refine hK.out _ _ (HW.out _ BW33) (fun hHeld => ?_)
                  clear hK K
                  (try simp only [Act.put, List.getElem_toArray, List.getElem_cons_succ, List.getElem_cons_zero, List.setIfInBounds_toArray, List.set_cons_zero, List.set_cons_succ])
                  have R733 := readR_below R732 hb33; have T733 := slOk_keep T732 (keepT_ty (keepT_below hb33) (Or.inl rfl))
                  have KE33 := blk_below KE32 hb33; have TE33 := tyB_call TE32 hb33
                  clear R732 T732 KE32 TE32
                  (refine wpAnyH_take (i := 10) (v := ?_) rfl (by kernel_rfl) (by kernel_rfl) (by kernel_rfl) (fun _ _ _ h => h) (Or.inl ⟨by rfl, ?_⟩) hHeld ?_; rotate_left; (focus (intro w hSw; (try dsimp only at hSw); go_simp; try (with_reducible rfl))); (try simp only [Act.put, List.getElem_toArray, List.getElem_cons_succ, List.getElem_cons_zero, List.setIfInBounds_toArray, List.set_cons_zero, List.set_cons_succ]))
                  refine wpAnyH_ready (rs := [12]) (by kernel_rfl) (by simp) (AllReadyH.cons rfl (fun K hK => ?_) AllReadyH.nil)
                  obtain ⟨e0, e1, e2, e3, ef⟩ := blk4 KE33
                  go_simp
                  have BF : Below W5.heap.size W5 ((((q33.setCell ⟨q29.heap.size, 0, none⟩ (.slice (some ⟨k7, 0, none⟩) ps.length cap7)).setCell ⟨q29.heap.size, 1, none⟩ (.slice (some ⟨k8, 0, none⟩) ls.length cap8)).setCell ⟨q29.heap.size, 2, none⟩ (.int .i64 r)).setCell ⟨q29.heap.size, 3, none⟩ (.slice none 0 0)) := b_set (b_set (b_set (b_set BW33 XE _) XE _) XE _) XE _
                  have HBF := Lib.hid BF
                  have hm : ∀ (o : Nat) (u : Value) (w : World), tyB w (q29.heap.size) = some FUNT → KeepT w (w.setCell ⟨q29.heap.size, o, none⟩ u) := fun o u w h => keepT_set (p := ⟨q29.heap.size, o, none⟩) h (by decide) (by decide) u
                  have K9 : KeepT q33 ((((q33.setCell ⟨q29.heap.size, 0, none⟩ (.slice (some ⟨k7, 0, none⟩) ps.length cap7)).setCell ⟨q29.heap.size, 1, none⟩ (.slice (some ⟨k8, 0, none⟩) ls.length cap8)).setCell ⟨q29.heap.size, 2, none⟩ (.int .i64 r)).setCell ⟨q29.heap.size, 3, none⟩ (.slice none 0 0)) := keepT_trans (keepT_trans (keepT_trans (hm 0 _ _ TE33) (hm 1 _ _ (by rw [tyB_set]; exact TE33))) (hm 2 _ _ (by rw [tyB_set, tyB_set]; exact TE33))) (hm 3 _ _ (by rw [tyB_set, tyB_set, tyB_set]; exact TE33))
                  have FS : FunSt W5 ((((q33.setCell ⟨q29.heap.size, 0, none⟩ (.slice (some ⟨k7, 0, none⟩) ps.length cap7)).setCell ⟨q29.heap.size, 1, none⟩ (.slice (some ⟨k8, 0, none⟩) ls.length cap8)).setCell ⟨q29.heap.size, 2, none⟩ (.int .i64 r)).setCell ⟨q29.heap.size, 3, none⟩ (.slice none 0 0)) (q29.heap.size) ps ls r [] := ⟨⟨_, _, _⟩, ⟨_, _, _⟩, .slice none 0 0, readI_keep K9 T733 (readR_I R733), readI_keep K9 T833 (readR_I R833), slOk_keep T733 (keepT_ty K9 (Or.inl rfl)), slOk_keep T833 (keepT_ty K9 (Or.inl rfl)), ownR_nil _ _, blk_set (blk_set (blk_set (blk_set KE33 0 _) 1 _) 2 _) 3 _, by rw [tyB_set, tyB_set, tyB_set, tyB_set]; exact TE33, BF⟩
                  have HFS := Lib.hid FS
                  clear hm K9 FS BF e0 e1 e2 e3 ef
                  refine hK.out _ _ (HW.out _ HBF.out) (fun hHeld => ?_)
                  clear hK K
                  (try simp only [Act.put, List.getElem_toArray, List.getElem_cons_succ, List.getElem_cons_zero, List.setIfInBounds_toArray, List.set_cons_zero, List.set_cons_succ])
                  refine wpAnyH_done (by kernel_rfl) ?_ _
                  go_wp2_with fail
                  go_meet
                  case rel => exact ⟨_, rfl, XE, HFS.out⟩
              · go_simp
                refine hK.out _ _ (HW.out _ (b_alloc BW28 _)) (fun hHeld => ?_)
                clear hK K
                (try simp only [Act.put, List.getElem_toArray, List.getElem_cons_succ, List.getElem_cons_zero, List.setIfInBounds_toArray, List.set_cons_zero, List.set_cons_succ])
                refine wpAnyH_named ?_
                intro q34 hq34
                have hb34 : Below q28.heap.size q28 q34 := by rw [hq34]; exact b_alloc (Below.refl _ _) _
                have BW34 := b_call BW28 hb34
                have KE34 : Blk q34 q28.heap.size [.slice none 0 0, .slice none 0 0, .int .i64 0, .slice none 0 0] := by rw [hq34]; exact blk_new _ _ _
                have TE34 : tyB q34 q28.heap.size = some FUNT := by rw [hq34]; exact tyB_new _ _ _
                have XE := BW28.size
                clear hq34
                replace hHeld := HW.out _ BW34
                refine wpAnyH_ready (rs := [3]) (by kernel_rfl) (by simp) (AllReadyH.cons rfl (fun K hK => ?_) AllReadyH.nil)
                refine step_appendNew (c := intE) rowInt (by rfl) _ _ (by rfl) _ (by rfl) _ ps (by rfl) (readR_below HP5.out BW34) (by omega) (by unfold maxLen; omega) ?_
                intro v35 q35 hn35
                obtain ⟨R735, ⟨k7, cap7, rfl, hk7⟩, hb35⟩ := hn35
                have BW35 := b_call BW34 hb35
                have T735 := slOk_new hk7
                clear hk7
                refine hK.out _ _ (HW.out _ BW35) (fun hHeld => ?_)
                clear hK K
                (try simp only [Act.put, List.getElem_toArray, List.getElem_cons_succ, List.getElem_cons_zero, List.setIfInBounds_toArray, List.set_cons_zero, List.set_cons_succ])
                have KE35 := blk_below KE34 hb35; have TE35 := tyB_call TE34 hb35
                clear KE34 TE34
                refine wpAnyH_ready (rs := [7]) (by kernel_rfl) (by simp) (AllReadyH.cons rfl (fun K hK => ?_) AllReadyH.nil)
                refine step_appendNew (c := intE) rowInt (by rfl) _ _ (by rfl) _ (by rfl) _ ls (by rfl) (readR_below HL5.out BW35) (by omega) (by unfold maxLen; omega) ?_
                intro v36 q36 hn36
                obtain ⟨R836, ⟨k8, cap8, rfl, hk8⟩, hb36⟩ := hn36
                have BW36 := b_call BW35 hb36
                have T836 := slOk_new hk8
                clear hk8
                refine hK.out _ _ (HW.out _ BW36) (fun hHeld => ?_)
                clear hK K
                (try simp only [Act.put, List.getElem_toArray, List.getElem_cons_succ, List.getElem_cons_zero, List.setIfInBounds_toArray, List.set_cons_zero, List.set_cons_succ])
                have KE36 := blk_below KE35 hb36; have TE36 := tyB_call TE35 hb36
                have R736 := readR_below R735 hb36; have T736 := slOk_keep T735 (keepT_ty (keepT_below hb36) (Or.inl rfl))
                clear KE35 TE35 R735 T735
                (refine wpAnyH_take (i := 10) (v := ?_) rfl (by kernel_rfl) (by kernel_rfl) (by kernel_rfl) (fun _ _ _ h => h) (Or.inl ⟨by rfl, ?_⟩) hHeld ?_; rotate_left; (focus (intro w hSw; (try dsimp only at hSw); go_simp; try (with_reducible rfl))); (try simp only [Act.put, List.getElem_toArray, List.getElem_cons_succ, List.getElem_cons_zero, List.setIfInBounds_toArray, List.set_cons_zero, List.set_cons_succ]))
                refine wpAnyH_ready (rs := [12]) (by kernel_rfl) (by simp) (AllReadyH.cons rfl (fun K hK => ?_) AllReadyH.nil)
                obtain ⟨e0, e1, e2, e3, ef⟩ := blk4 KE36
                go_simp
                have BF : Below W5.heap.size W5 ((((q36.setCell ⟨q28.heap.size, 0, none⟩ (.slice (some ⟨k7, 0, none⟩) ps.length cap7)).setCell ⟨q28.heap.size, 1, none⟩ (.slice (some ⟨k8, 0, none⟩) ls.length cap8)).setCell ⟨q28.heap.size, 2, none⟩ (.int .i64 r)).setCell ⟨q28.heap.size, 3, none⟩ (.slice none 0 0)) := b_set (b_set (b_set (b_set BW36 XE _) XE _) XE _) XE _
                have HBF := Lib.hid BF
                have hm : ∀ (o : Nat) (u : Value) (w : World), tyB w (q28.heap.size) = some FUNT → KeepT w (w.setCell ⟨q28.heap.size, o, none⟩ u) := fun o u w h => keepT_set (p := ⟨q28.heap.size, o, none⟩) h (by decide) (by decide) u
                have K9 : KeepT q36 ((((q36.setCell ⟨q28.heap.size, 0, none⟩ (.slice (some ⟨k7, 0, none⟩) ps.length cap7)).setCell ⟨q28.heap.size, 1, none⟩ (.slice (some ⟨k8, 0, none⟩) ls.length cap8)).setCell ⟨q28.heap.size, 2, none⟩ (.int .i64 r)).setCell ⟨q28.heap.size, 3, none⟩ (.slice none 0 0)) := keepT_trans (keepT_trans (keepT_trans (hm 0 _ _ TE36) (hm 1 _ _ (by rw [tyB_set]; exact TE36))) (hm 2 _ _ (by rw [tyB_set, tyB_set]; exact TE36))) (hm 3 _ _ (by rw [tyB_set, tyB_set, tyB_set]; exact TE36))
                have FS : FunSt W5 ((((q36.setCell ⟨q28.heap.size, 0, none⟩ (.slice (some ⟨k7, 0, none⟩) ps.length cap7)).setCell ⟨q28.heap.size, 1, none⟩ (.slice (some ⟨k8, 0, none⟩) ls.length cap8)).setCell ⟨q28.heap.size, 2, none⟩ (.int .i64 r)).setCell ⟨q28.heap.size, 3, none⟩ (.slice none 0 0)) (q28.heap.size) ps ls r [] := ⟨⟨_, _, _⟩, ⟨_, _, _⟩, .slice none 0 0, readI_keep K9 T736 (readR_I R736), readI_keep K9 T836 (readR_I R836), slOk_keep T736 (keepT_ty K9 (Or.inl rfl)), slOk_keep T836 (keepT_ty K9 (Or.inl rfl)), ownR_nil _ _, blk_set (blk_set (blk_set (blk_set KE36 0 _) 1 _) 2 _) 3 _, by rw [tyB_set, tyB_set, tyB_set, tyB_set]; exact TE36, BF⟩
                have HFS := Lib.hid FS
                clear hm K9 FS BF e0 e1 e2 e3 ef
                refine hK.out _ _ (HW.out _ HBF.out) (fun hHeld => ?_)
                clear hK K
                (try simp only [Act.put, List.getElem_toArray, List.getElem_cons_succ, List.getElem_cons_zero, List.setIfInBounds_toArray, List.set_cons_zero, List.set_cons_succ])
                refine wpAnyH_done (by kernel_rfl) ?_ _
                go_wp2_with fail
                go_meet
                case rel => exact ⟨_, rfl, XE, HFS.out⟩
            · go_simp
              refine hK.out _ _ (HW.out _ (b_alloc BW27 _)) (fun hHeld => ?_)
              clear hK K
              (try simp only [Act.put, List.getElem_toArray, List.getElem_cons_succ, List.getElem_cons_zero, List.setIfInBounds_toArray, List.set_cons_zero, List.set_cons_succ])
              refine wpAnyH_named ?_
              intro q37 hq37
              have hb37 : Below q27.heap.size q27 q37 := by rw [hq37]; exact b_alloc (Below.refl _ _) _
              have BW37 := b_call BW27 hb37
              have KE37 : Blk q37 q27.heap.size [.slice none 0 0, .slice none 0 0, .int .i64 0, .slice none 0 0] := by rw [hq37]; exact blk_new _ _ _
              have TE37 : tyB q37 q27.heap.size = some FUNT := by rw [hq37]; exact tyB_new _ _ _
              have XE := BW27.size
              clear hq37
              replace hHeld := HW.out _ BW37
              refine wpAnyH_ready (rs := [0]) (by kernel_rfl) (by simp) (AllReadyH.cons rfl (fun K hK => ?_) AllReadyH.nil)
              go_simp
              refine hK.out _ _ (HW.out _ (b_alloc BW37 _)) (fun hHeld => ?_)
              clear hK K
              (try simp only [Act.put, List.getElem_toArray, List.getElem_cons_succ, List.getElem_cons_zero, List.setIfInBounds_toArray, List.set_cons_zero, List.set_cons_succ])
              refine wpAnyH_named ?_
              intro q38 hq38
              have hb38 : Below q37.heap.size q37 q38 := by rw [hq38]; exact b_alloc (Below.refl _ _) _
              have BW38 := b_call BW37 hb38
              have KE38 := blk_below KE37 hb38; have TE38 := tyB_call TE37 hb38
              clear KE37 TE37
              clear hq38
              replace hHeld := HW.out _ BW38
              refine wpAnyH_ready (rs := [3]) (by kernel_rfl) (by simp) (AllReadyH.cons rfl (fun K hK => ?_) AllReadyH.nil)
              refine step_appendNew (c := intE) rowInt (by rfl) _ _ (by rfl) _ (by rfl) _ ps (by rfl) (readR_below HP5.out BW38) (by omega) (by unfold maxLen; omega) ?_
              intro v39 q39 hn39
              obtain ⟨R739, ⟨k7, cap7, rfl, hk7⟩, hb39⟩ := hn39
              have BW39 := b_call BW38 hb39
              have T739 := slOk_new hk7
              clear hk7
              refine hK.out _ _ (HW.out _ BW39) (fun hHeld => ?_)
              clear hK K
              (try simp only [Act.put, List.getElem_toArray, List.getElem_cons_succ, List.getElem_cons_zero, List.setIfInBounds_toArray, List.set_cons_zero, List.set_cons_succ])
              have KE39 := blk_below KE38 hb39; have TE39 := tyB_call TE38 hb39
              clear KE38 TE38
              refine wpAnyH_ready (rs := [7]) (by kernel_rfl) (by simp) (AllReadyH.cons rfl (fun K hK => ?_) AllReadyH.nil)
              refine step_appendNew (c := intE) rowInt (by rfl) _ _ (by rfl) _ (by rfl) _ ls (by rfl) (readR_below HL5.out BW39) (by omega) (by unfold maxLen; omega) ?_
              intro v40 q40 hn40
              obtain ⟨R840, ⟨k8, cap8, rfl, hk8⟩, hb40⟩ := hn40
              have BW40 := b_call BW39 hb40
              have T840 := slOk_new hk8
              clear hk8
              refine hK.out _ _ (HW.out _ BW40) (fun hHeld => ?_)
              clear hK K
              (try simp only [Act.put, List.getElem_toArray, List.getElem_cons_succ, List.getElem_cons_zero, List.setIfInBounds_toArray, List.set_cons_zero, List.set_cons_succ])
              have KE40 := blk_below KE39 hb40; have TE40 := tyB_call TE39 hb40
              have R740 := readR_below R739 hb40; have T740 := slOk_keep T739 (keepT_ty (keepT_below hb40) (Or.inl rfl))
              clear KE39 TE39 R739 T739
              (refine wpAnyH_take (i := 10) (v := ?_) rfl (by kernel_rfl) (by kernel_rfl) (by kernel_rfl) (fun _ _ _ h => h) (Or.inl ⟨by rfl, ?_⟩) hHeld ?_; rotate_left; (focus (intro w hSw; (try dsimp only at hSw); go_simp; try (with_reducible rfl))); (try simp only [Act.put, List.getElem_toArray, List.getElem_cons_succ, List.getElem_cons_zero, List.setIfInBounds_toArray, List.set_cons_zero, List.set_cons_succ]))
              refine wpAnyH_ready (rs := [12]) (by kernel_rfl) (by simp) (AllReadyH.cons rfl (fun K hK => ?_) AllReadyH.nil)
              obtain ⟨e0, e1, e2, e3, ef⟩ := blk4 KE40
              go_simp
              have BF : Below W5.heap.size W5 ((((q40.setCell ⟨q27.heap.size, 0, none⟩ (.slice (some ⟨k7, 0, none⟩) ps.length cap7)).setCell ⟨q27.heap.size, 1, none⟩ (.slice (some ⟨k8, 0, none⟩) ls.length cap8)).setCell ⟨q27.heap.size, 2, none⟩ (.int .i64 r)).setCell ⟨q27.heap.size, 3, none⟩ (.slice none 0 0)) := b_set (b_set (b_set (b_set BW40 XE _) XE _) XE _) XE _
              have HBF := Lib.hid BF
              have hm : ∀ (o : Nat) (u : Value) (w : World), tyB w (q27.heap.size) = some FUNT → KeepT w (w.setCell ⟨q27.heap.size, o, none⟩ u) := fun o u w h => keepT_set (p := ⟨q27.heap.size, o, none⟩) h (by decide) (by decide) u
              have K9 : KeepT q40 ((((q40.setCell ⟨q27.heap.size, 0, none⟩ (.slice (some ⟨k7, 0, none⟩) ps.length cap7)).setCell ⟨q27.heap.size, 1, none⟩ (.slice (some ⟨k8, 0, none⟩) ls.length cap8)).setCell ⟨q27.heap.size, 2, none⟩ (.int .i64 r)).setCell ⟨q27.heap.size, 3, none⟩ (.slice none 0 0)) := keepT_trans (keepT_trans (keepT_trans (hm 0 _ _ TE40) (hm 1 _ _ (by rw [tyB_set]; exact TE40))) (hm 2 _ _ (by rw [tyB_set, tyB_set]; exact TE40))) (hm 3 _ _ (by rw [tyB_set, tyB_set, tyB_set]; exact TE40))
              have FS : FunSt W5 ((((q40.setCell ⟨q27.heap.size, 0, none⟩ (.slice (some ⟨k7, 0, none⟩) ps.length cap7)).setCell ⟨q27.heap.size, 1, none⟩ (.slice (some ⟨k8, 0, none⟩) ls.length cap8)).setCell ⟨q27.heap.size, 2, none⟩ (.int .i64 r)).setCell ⟨q27.heap.size, 3, none⟩ (.slice none 0 0)) (q27.heap.size) ps ls r [] := ⟨⟨_, _, _⟩, ⟨_, _, _⟩, .slice none 0 0, readI_keep K9 T740 (readR_I R740), readI_keep K9 T840 (readR_I R840), slOk_keep T740 (keepT_ty K9 (Or.inl rfl)), slOk_keep T840 (keepT_ty K9 (Or.inl rfl)), ownR_nil _ _, blk_set (blk_set (blk_set (blk_set KE40 0 _) 1 _) 2 _) 3 _, by rw [tyB_set, tyB_set, tyB_set, tyB_set]; exact TE40, BF⟩
              have HFS := Lib.hid FS
              clear hm K9 FS BF e0 e1 e2 e3 ef
              refine hK.out _ _ (HW.out _ HBF.out) (fun hHeld => ?_)
              clear hK K
              (try simp only [Act.put, List.getElem_toArray, List.getElem_cons_succ, List.getElem_cons_zero, List.setIfInBounds_toArray, List.set_cons_zero, List.set_cons_succ])
              refine wpAnyH_done (by kernel_rfl) ?_ _
              go_wp2_with fail
              go_meet
              case rel => exact ⟨_, rfl, XE, HFS.out⟩
          · go_simp
            refine hK.out _ _ (HW.out _ (b_alloc BW0 _)) (fun hHeld => ?_)
            clear hK K
            (try simp only [Act.put, List.getElem_toArray, List.getElem_cons_succ, List.getElem_cons_zero, List.setIfInBounds_toArray, List.set_cons_zero, List.set_cons_succ])
            refine wpAnyH_named ?_
            intro q41 hq41
            have hb41 : Below q0.heap.size q0 q41 := by rw [hq41]; exact b_alloc (Below.refl _ _) _
            have BW41 := b_call BW0 hb41
            have KE41 : Blk q41 q0.heap.size [.slice none 0 0, .slice none 0 0, .int .i64 0, .slice none 0 0] := by rw [hq41]; exact blk_new _ _ _
            have TE41 : tyB q41 q0.heap.size = some FUNT := by rw [hq41]; exact tyB_new _ _ _
            have XE := BW0.size
            clear hq41
            replace hHeld := HW.out _ BW41
            refine wpAnyH_ready (rs := [0, 4]) (by kernel_rfl) (by simp) (AllReadyH.cons rfl (fun K hK => ?_) (AllReadyH.cons rfl (fun K hK => ?_) AllReadyH.nil))
            · go_simp
              refine hK.out _ _ (HW.out _ (b_alloc BW41 _)) (fun hHeld => ?_)
              clear hK K
              (try simp only [Act.put, List.getElem_toArray, List.getElem_cons_succ, List.getElem_cons_zero, List.setIfInBounds_toArray, List.set_cons_zero, List.set_cons_succ])
              refine wpAnyH_named ?_
              intro q42 hq42
              have hb42 : Below q41.heap.size q41 q42 := by rw [hq42]; exact b_alloc (Below.refl _ _) _
              have BW42 := b_call BW41 hb42
              have KE42 := blk_below KE41 hb42; have TE42 := tyB_call TE41 hb42
              clear KE41 TE41
              clear hq42
              replace hHeld := HW.out _ BW42
              refine wpAnyH_ready (rs := [3, 4]) (by kernel_rfl) (by simp) (AllReadyH.cons rfl (fun K hK => ?_) (AllReadyH.cons rfl (fun K hK => ?_) AllReadyH.nil))
              · refine step_appendNew (c := intE) rowInt (by rfl) _ _ (by rfl) _ (by rfl) _ ps (by rfl) (readR_below HP5.out BW42) (by omega) (by unfold maxLen; omega) ?_
                intro v43 q43 hn43
                obtain ⟨R743, ⟨k7, cap7, rfl, hk7⟩, hb43⟩ := hn43
                have BW43 := b_call BW42 hb43
                have T743 := slOk_new hk7
                clear hk7
                refine hK.out _ _ (HW.out _ BW43) (fun hHeld => ?_)
                clear hK K
                (try simp only [Act.put, List.getElem_toArray, List.getElem_cons_succ, List.getElem_cons_zero, List.setIfInBounds_toArray, List.set_cons_zero, List.set_cons_succ])
                have KE43 := blk_below KE42 hb43; have TE43 := tyB_call TE42 hb43
                clear KE42 TE42
                refine wpAnyH_ready (rs := [4]) (by kernel_rfl) (by simp) (AllReadyH.cons rfl (fun K hK => ?_) AllReadyH.nil)
                go_simp
                refine hK.out _ _ (HW.out _ (b_alloc BW43 _)) (fun hHeld => ?_)
                clear hK K
                (try simp only [Act.put, List.getElem_toArray, List.getElem_cons_succ, List.getElem_cons_zero, List.setIfInBounds_toArray, List.set_cons_zero, List.set_cons_succ])
                refine wpAnyH_named ?_
                intro q44 hq44
                have hb44 : Below q43.heap.size q43 q44 := by rw [hq44]; exact b_alloc (Below.refl _ _) _
                have BW44 := b_call BW43 hb44
                have KE44 := blk_below KE43 hb44; have TE44 := tyB_call TE43 hb44
                have R744 := readR_below R743 hb44; have T744 := slOk_keep T743 (keepT_ty (keepT_below hb44) (Or.inl rfl))
                clear KE43 TE43 R743 T743
                clear hq44
                replace hHeld := HW.out _ BW44
                refine wpAnyH_ready (rs := [7]) (by kernel_rfl) (by simp) (AllReadyH.cons rfl (fun K hK => ?_) AllReadyH.nil)
                refine step_appendNew (c := intE) rowInt (by rfl) _ _ (by rfl) _ (by rfl) _ ls (by rfl) (readR_below HL5.out BW44) (by omega) (by unfold maxLen; omega) ?_
                intro v45 q45 hn45
                obtain ⟨R845, ⟨k8, cap8, rfl, hk8⟩, hb45⟩ := hn45
                have BW45 := b_call BW44 hb45
                have T845 := slOk_new hk8
                clear hk8
                refine hK.out _ _ (HW.out _ BW45) (fun hHeld => ?_)
                clear hK K
                (try simp only [Act.put, List.getElem_toArray, List.getElem_cons_succ, List.getElem_cons_zero, List.setIfInBounds_toArray, List.set_cons_zero, List.set_cons_succ])
                have KE45 := blk_below KE44 hb45; have TE45 := tyB_call TE44 hb45
                have R745 := readR_below R744 hb45; have T745 := slOk_keep T744 (keepT_ty (keepT_below hb45) (Or.inl rfl))
                clear KE44 TE44 R744 T744
                (refine wpAnyH_take (i := 10) (v := ?_) rfl (by kernel_rfl) (by kernel_rfl) (by kernel_rfl) (fun _ _ _ h => h) (Or.inl ⟨by rfl, ?_⟩) hHeld ?_; rotate_left; (focus (intro w hSw; (try dsimp only at hSw); go_simp; try (with_reducible rfl))); (try simp only [Act.put, List.getElem_toArray, List.getElem_cons_succ, List.getElem_cons_zero, List.setIfInBounds_toArray, List.set_cons_zero, List.set_cons_succ]))
                refine wpAnyH_ready (rs := [12]) (by kernel_rfl) (by simp) (AllReadyH.cons rfl (fun K hK => ?_) AllReadyH.nil)
                obtain ⟨e0, e1, e2, e3, ef⟩ := blk4 KE45
                go_simp
                have BF : Below W5.heap.size W5 ((((q45.setCell ⟨q0.heap.size, 0, none⟩ (.slice (some ⟨k7, 0, none⟩) ps.length cap7)).setCell ⟨q0.heap.size, 1, none⟩ (.slice (some ⟨k8, 0, none⟩) ls.length cap8)).setCell ⟨q0.heap.size, 2, none⟩ (.int .i64 r)).setCell ⟨q0.heap.size, 3, none⟩ (.slice none 0 0)) := b_set (b_set (b_set (b_set BW45 XE _) XE _) XE _) XE _
                have HBF := Lib.hid BF
                have hm : ∀ (o : Nat) (u : Value) (w : World), tyB w (q0.heap.size) = some FUNT → KeepT w (w.setCell ⟨q0.heap.size, o, none⟩ u) := fun o u w h => keepT_set (p := ⟨q0.heap.size, o, none⟩) h (by decide) (by decide) u
                have K9 : KeepT q45 ((((q45.setCell ⟨q0.heap.size, 0, none⟩ (.slice (some ⟨k7, 0, none⟩) ps.length cap7)).setCell ⟨q0.heap.size, 1, none⟩ (.slice (some ⟨k8, 0, none⟩) ls.length cap8)).setCell ⟨q0.heap.size, 2, none⟩ (.int .i64 r)).setCell ⟨q0.heap.size, 3, none⟩ (.slice none 0 0)) := keepT_trans (keepT_trans (keepT_trans (hm 0 _ _ TE45) (hm 1 _ _ (by rw [tyB_set]; exact TE45))) (hm 2 _ _ (by rw [tyB_set, tyB_set]; exact TE45))) (hm 3 _ _ (by rw [tyB_set, tyB_set, tyB_set]; exact TE45))
                have FS : FunSt W5 ((((q45.setCell ⟨q0.heap.size, 0, none⟩ (.slice (some ⟨k7, 0, none⟩) ps.length cap7)).setCell ⟨q0.heap.size, 1, none⟩ (.slice (some ⟨k8, 0, none⟩) ls.length cap8)).setCell ⟨q0.heap.size, 2, none⟩ (.int .i64 r)).setCell ⟨q0.heap.size, 3, none⟩ (.slice none 0 0)) (q0.heap.size) ps ls r [] := ⟨⟨_, _, _⟩, ⟨_, _, _⟩, .slice none 0 0, readI_keep K9 T745 (readR_I R745), readI_keep K9 T845 (readR_I R845), slOk_keep T745 (keepT_ty K9 (Or.inl rfl)), slOk_keep T845 (keepT_ty K9 (Or.inl rfl)), ownR_nil _ _, blk_set (blk_set (blk_set (blk_set KE45 0 _) 1 _) 2 _) 3 _, by rw [tyB_set, tyB_set, tyB_set, tyB_set]; exact TE45, BF⟩
                have HFS := Lib.hid FS
                clear hm K9 FS BF e0 e1 e2 e3 ef
                refine hK.out _ _ (HW.out _ HBF.out) (fun hHeld => ?_)
                clear hK K
                (try simp only [Act.put, List.getElem_toArray, List.getElem_cons_succ, List.getElem_cons_zero, List.setIfInBounds_toArray, List.set_cons_zero, List.set_cons_succ])
                refine wpAnyH_done (by kernel_rfl) ?_ _
                go_wp2_with fail
                go_meet
                case rel => exact ⟨_, rfl, XE, HFS.out⟩
              · go_simp
                refine hK.out _ _ (HW.out _ (b_alloc BW42 _)) (fun hHeld => ?_)
                clear hK K
                (try simp only [Act.put, List.getElem_toArray, List.getElem_cons_succ, List.getElem_cons_zero, List.setIfInBounds_toArray, List.set_cons_zero, List.set_cons_succ])
                refine wpAnyH_named ?_
                intro q46 hq46
                have hb46 : Below q42.heap.size q42 q46 := by rw [hq46]; exact b_alloc (Below.refl _ _) _
                have BW46 := b_call BW42 hb46
                have KE46 := blk_below KE42 hb46; have TE46 := tyB_call TE42 hb46
                clear KE42 TE42
                clear hq46
                replace hHeld := HW.out _ BW46
                refine wpAnyH_ready (rs := [3]) (by kernel_rfl) (by simp) (AllReadyH.cons rfl (fun K hK => ?_) AllReadyH.nil)
                refine step_appendNew (c := intE) rowInt (by rfl) _ _ (by rfl) _ (by rfl) _ ps (by rfl) (readR_below HP5.out BW46) (by omega) (by unfold maxLen; omega) ?_
                intro v47 q47 hn47
                obtain ⟨R747, ⟨k7, cap7, rfl, hk7⟩, hb47⟩ := hn47
                have BW47 := b_call BW46 hb47
                have T747 := slOk_new hk7
                clear hk7
                refine hK.out _ _ (HW.out _ BW47) (fun hHeld => ?_)
                clear hK K
                (try simp only [Act.put, List.getElem_toArray, List.getElem_cons_succ, List.getElem_cons_zero, List.setIfInBounds_toArray, List.set_cons_zero, List.set_cons_succ])
                have KE47 := blk_below KE46 hb47; have TE47 := tyB_call TE46 hb47
                clear KE46 TE46
                refine wpAnyH_ready (rs := [7]) (by kernel_rfl) (by simp) (AllReadyH.cons rfl (fun K hK => ?_) AllReadyH.nil)
                refine step_appendNew (c := intE) rowInt (by rfl) _ _ (by rfl) _ (by rfl) _ ls (by rfl) (readR_below HL5.out BW47) (by omega) (by unfold maxLen; omega) ?_
                intro v48 q48 hn48
                obtain ⟨R848, ⟨k8, cap8, rfl, hk8⟩, hb48⟩ := hn48
                have BW48 := b_call BW47 hb48
                have T848 := slOk_new hk8
                clear hk8
                refine hK.out _ _ (HW.out _ BW48) (fun hHeld => ?_)
                clear hK K
                (try simp only [Act.put, List.getElem_toArray, List.getElem_cons_succ, List.getElem_cons_zero, List.setIfInBounds_toArray, List.set_cons_zero, List.set_cons_succ])
                have KE48 := blk_below KE47 hb48; have TE48 := tyB_call TE47 hb48
                have R748 := readR_below R747 hb48; have T748 := slOk_keep T747 (keepT_ty (keepT_below hb48) (Or.inl rfl))
                clear KE47 TE47 R747 T747
                (refine wpAnyH_take (i := 10) (v := ?_) rfl (by kernel_rfl) (by kernel_rfl) (by kernel_rfl) (fun _ _ _ h => h) (Or.inl ⟨by rfl, ?_⟩) hHeld ?_; rotate_left; (focus (intro w hSw; (try dsimp only at hSw); go_simp; try (with_reducible rfl))); (try simp only [Act.put, List.getElem_toArray, List.getElem_cons_succ, List.getElem_cons_zero, List.setIfInBounds_toArray, List.set_cons_zero, List.set_cons_succ]))
                refine wpAnyH_ready (rs := [12]) (by kernel_rfl) (by simp) (AllReadyH.cons rfl (fun K hK => ?_) AllReadyH.nil)
                obtain ⟨e0, e1, e2, e3, ef⟩ := blk4 KE48
                go_simp
                have BF : Below W5.heap.size W5 ((((q48.setCell ⟨q0.heap.size, 0, none⟩ (.slice (some ⟨k7, 0, none⟩) ps.length cap7)).setCell ⟨q0.heap.size, 1, none⟩ (.slice (some ⟨k8, 0, none⟩) ls.length cap8)).setCell ⟨q0.heap.size, 2, none⟩ (.int .i64 r)).setCell ⟨q0.heap.size, 3, none⟩ (.slice none 0 0)) := b_set (b_set (b_set (b_set BW48 XE _) XE _) XE _) XE _
                have HBF := Lib.hid BF
                have hm : ∀ (o : Nat) (u : Value) (w : World), tyB w (q0.heap.size) = some FUNT → KeepT w (w.setCell ⟨q0.heap.size, o, none⟩ u) := fun o u w h => keepT_set (p := ⟨q0.heap.size, o, none⟩) h (by decide) (by decide) u
                have K9 : KeepT q48 ((((q48.setCell ⟨q0.heap.size, 0, none⟩ (.slice (some ⟨k7, 0, none⟩) ps.length cap7)).setCell ⟨q0.heap.size, 1, none⟩ (.slice (some ⟨k8, 0, none⟩) ls.length cap8)).setCell ⟨q0.heap.size, 2, none⟩ (.int .i64 r)).setCell ⟨q0.heap.size, 3, none⟩ (.slice none 0 0)) := keepT_trans (keepT_trans (keepT_trans (hm 0 _ _ TE48) (hm 1 _ _ (by rw [tyB_set]; exact TE48))) (hm 2 _ _ (by rw [tyB_set, tyB_set]; exact TE48))) (hm 3 _ _ (by rw [tyB_set, tyB_set, tyB_set]; exact TE48))
                have FS : FunSt W5 ((((q48.setCell ⟨q0.heap.size, 0, none⟩ (.slice (some ⟨k7, 0, none⟩) ps.length cap7)).setCell ⟨q0.heap.size, 1, none⟩ (.slice (some ⟨k8, 0, none⟩) ls.length cap8)).setCell ⟨q0.heap.size, 2, none⟩ (.int .i64 r)).setCell ⟨q0.heap.size, 3, none⟩ (.slice none 0 0)) (q0.heap.size) ps ls r [] := ⟨⟨_, _, _⟩, ⟨_, _, _⟩, .slice none 0 0, readI_keep K9 T748 (readR_I R748), readI_keep K9 T848 (readR_I R848), slOk_keep T748 (keepT_ty K9 (Or.inl rfl)), slOk_keep T848 (keepT_ty K9 (Or.inl rfl)), ownR_nil _ _, blk_set (blk_set (blk_set (blk_set KE48 0 _) 1 _) 2 _) 3 _, by rw [tyB_set, tyB_set, tyB_set, tyB_set]; exact TE48, BF⟩
                have HFS := Lib.hid FS
                clear hm K9 FS BF e0 e1 e2 e3 ef
                refine hK.out _ _ (HW.out _ HBF.out) (fun hHeld => ?_)
                clear hK K
                (try simp only [Act.put, List.getElem_toArray, List.getElem_cons_succ, List.getElem_cons_zero, List.setIfInBounds_toArray, List.set_cons_zero, List.set_cons_succ])
                refine wpAnyH_done (by kernel_rfl) ?_ _
                go_wp2_with fail
                go_meet
                case rel => exact ⟨_, rfl, XE, HFS.out⟩
            · go_simp
              refine hK.out _ _ (HW.out _ (b_alloc BW41 _)) (fun hHeld => ?_)
              clear hK K
              (try simp only [Act.put, List.getElem_toArray, List.getElem_cons_succ, List.getElem_cons_zero, List.setIfInBounds_toArray, List.set_cons_zero, List.set_cons_succ])
              refine wpAnyH_named ?_
              intro q49 hq49
              have hb49 : Below q41.heap.size q41 q49 := by rw [hq49]; exact b_alloc (Below.refl _ _) _
              have BW49 := b_call BW41 hb49
              have KE49 := blk_below KE41 hb49; have TE49 := tyB_call TE41 hb49
              clear KE41 TE41
              clear hq49
              replace hHeld := HW.out _ BW49
              refine wpAnyH_ready (rs := [0]) (by kernel_rfl) (by simp) (AllReadyH.cons rfl (fun K hK => ?_) AllReadyH.nil)
              go_simp
              refine hK.out _ _ (HW.out _ (b_alloc BW49 _)) (fun hHeld => ?_)
              clear hK K
              (try simp only [Act.put, List.getElem_toArray, List.getElem_cons_succ, List.getElem_cons_zero, List.setIfInBounds_toArray, List.set_cons_zero, List.set_cons_succ])
              refine wpAnyH_named ?_
              intro q50 hq50
              have hb50 : Below q49.heap.size q49 q50 := by rw [hq50]; exact b_alloc (Below.refl _ _) _
              have BW50 := b_call BW49 hb50
              have KE50 := blk_below KE49 hb50; have TE50 := tyB_call TE49 hb50
              clear KE49 TE49
              clear hq50
              replace hHeld := HW.out _ BW50
              refine wpAnyH_ready (rs := [3]) (by kernel_rfl) (by simp) (AllReadyH.cons rfl (fun K hK => ?_) AllReadyH.nil)
              refine step_appendNew (c := intE) rowInt (by rfl) _ _ (by rfl) _ (by rfl) _ ps (by rfl) (readR_below HP5.out BW50) (by omega) (by unfold maxLen; omega) ?_
              intro v51 q51 hn51
              obtain ⟨R751, ⟨k7, cap7, rfl, hk7⟩, hb51⟩ := hn51
              have BW51 := b_call BW50 hb51
              have T751 := slOk_new hk7
              clear hk7
              refine hK.out _ _ (HW.out _ BW51) (fun hHeld => ?_)
              clear hK K
              (try simp only [Act.put, List.getElem_toArray, List.getElem_cons_succ, List.getElem_cons_zero, List.setIfInBounds_toArray, List.set_cons_zero, List.set_cons_succ])
              have KE51 := blk_below KE50 hb51; have TE51 := tyB_call TE50 hb51
              clear KE50 TE50
              refine wpAnyH_ready (rs := [7]) (by kernel_rfl) (by simp) (AllReadyH.cons rfl (fun K hK => ?_) AllReadyH.nil)
              refine step_appendNew (c := intE) rowInt (by rfl) _ _ (by rfl) _ (by rfl) _ ls (by rfl) (readR_below HL5.out BW51) (by omega) (by unfold maxLen; omega) ?_
              intro v52 q52 hn52
              obtain ⟨R852, ⟨k8, cap8, rfl, hk8⟩, hb52⟩ := hn52
              have BW52 := b_call BW51 hb52
              have T852 := slOk_new hk8
              clear hk8
              refine hK.out _ _ (HW.out _ BW52) (fun hHeld => ?_)
              clear hK K
              (try simp only [Act.put, List.getElem_toArray, List.getElem_cons_succ, List.getElem_cons_zero, List.setIfInBounds_toArray, List.set_cons_zero, List.set_cons_succ])
              have KE52 := blk_below KE51 hb52; have TE52 := tyB_call TE51 hb52
              have R752 := readR_below R751 hb52; have T752 := slOk_keep T751 (keepT_ty (keepT_below hb52) (Or.inl rfl))
              clear KE51 TE51 R751 T751
              (refine wpAnyH_take (i := 10) (v := ?_) rfl (by kernel_rfl) (by kernel_rfl) (by kernel_rfl) (fun _ _ _ h => h) (Or.inl ⟨by rfl, ?_⟩) hHeld ?_; rotate_left; (focus (intro w hSw; (try dsimp only at hSw); go_simp; try (with_reducible rfl))); (try simp only [Act.put, List.getElem_toArray, List.getElem_cons_succ, List.getElem_cons_zero, List.setIfInBounds_toArray, List.set_cons_zero, List.set_cons_succ]))
              refine wpAnyH_ready (rs := [12]) (by kernel_rfl) (by simp) (AllReadyH.cons rfl (fun K hK => ?_) AllReadyH.nil)
              obtain ⟨e0, e1, e2, e3, ef⟩ := blk4 KE52
              go_simp
              have BF : Below W5.heap.size W5 ((((q52.setCell ⟨q0.heap.size, 0, none⟩ (.slice (some ⟨k7, 0, none⟩) ps.length cap7)).setCell ⟨q0.heap.size, 1, none⟩ (.slice (some ⟨k8, 0, none⟩) ls.length cap8)).setCell ⟨q0.heap.size, 2, none⟩ (.int .i64 r)).setCell ⟨q0.heap.size, 3, none⟩ (.slice none 0 0)) := b_set (b_set (b_set (b_set BW52 XE _) XE _) XE _) XE _
              have HBF := Lib.hid BF
              have hm : ∀ (o : Nat) (u : Value) (w : World), tyB w (q0.heap.size) = some FUNT → KeepT w (w.setCell ⟨q0.heap.size, o, none⟩ u) := fun o u w h => keepT_set (p := ⟨q0.heap.size, o, none⟩) h (by decide) (by decide) u
              have K9 : KeepT q52 ((((q52.setCell ⟨q0.heap.size, 0, none⟩ (.slice (some ⟨k7, 0, none⟩) ps.length cap7)).setCell ⟨q0.heap.size, 1, none⟩ (.slice (some ⟨k8, 0, none⟩) ls.length cap8)).setCell ⟨q0.heap.size, 2, none⟩ (.int .i64 r)).setCell ⟨q0.heap.size, 3, none⟩ (.slice none 0 0)) := keepT_trans (keepT_trans (keepT_trans (hm 0 _ _ TE52) (hm 1 _ _ (by rw [tyB_set]; exact TE52))) (hm 2 _ _ (by rw [tyB_set, tyB_set]; exact TE52))) (hm 3 _ _ (by rw [tyB_set, tyB_set, tyB_set]; exact TE52))
              have FS : FunSt W5 ((((q52.setCell ⟨q0.heap.size, 0, none⟩ (.slice (some ⟨k7, 0, none⟩) ps.length cap7)).setCell ⟨q0.heap.size, 1, none⟩ (.slice (some ⟨k8, 0, none⟩) ls.length cap8)).setCell ⟨q0.heap.size, 2, none⟩ (.int .i64 r)).setCell ⟨q0.heap.size, 3, none⟩ (.slice none 0 0)) (q0.heap.size) ps ls r [] := ⟨⟨_, _, _⟩, ⟨_, _, _⟩, .slice none 0 0, readI_keep K9 T752 (readR_I R752), readI_keep K9 T852 (readR_I R852), slOk_keep T752 (keepT_ty K9 (Or.inl rfl)), slOk_keep T852 (keepT_ty K9 (Or.inl rfl)), ownR_nil _ _, blk_set (blk_set (blk_set (blk_set KE52 0 _) 1 _) 2 _) 3 _, by rw [tyB_set, tyB_set, tyB_set, tyB_set]; exact TE52, BF⟩
              have HFS := Lib.hid FS
              clear hm K9 FS BF e0 e1 e2 e3 ef
              refine hK.out _ _ (HW.out _ HBF.out) (fun hHeld => ?_)
              clear hK K
              (try simp only [Act.put, List.getElem_toArray, List.getElem_cons_succ, List.getElem_cons_zero, List.setIfInBounds_toArray, List.set_cons_zero, List.set_cons_succ])
              refine wpAnyH_done (by kernel_rfl) ?_ _
              go_wp2_with fail
              go_meet
              case rel => exact ⟨_, rfl, XE, HFS.out⟩
        --R6
        case rest =>
          obtain ⟨x, rfl, hxW, hst⟩ := hcut
          have hbx : Below W5.heap.size W5 wc := by obtain ⟨_, _, _, _, _, _, _, _, _, _, hb⟩ := hst; exact hb
          have hx3 : wc.cell? ⟨wr.heap.size, 3, none⟩ = some (.slice ca code.length cc) := (blk4 (blk_below HX.out hbx)).2.2.2.1
          have HST := Lib.hid hst
          have hcl : (code.length : Int) ≤ 100 := by omega
          clear hst hbx
          obtain ⟨W1, hW1⟩ : ∃ W1, W1 = wr := ⟨_, rfl⟩
          subst hW1
          go_wp2_with fail
          go_loopw [39] (fun i wz => ∃ j : Nat, j ≤ code.length ∧ i = .int .i64 j ∧ Hid (FunSt W5 wz x ps ls r (code.take j))) (fun i _ => code.length - (intOf i).toNat)
          case atStart => exact ⟨0, Nat.zero_le _, rfl, HST.out⟩
          case round =>
            obtain ⟨j, hj, rfl, hp⟩ := hrel
            obtain ⟨p, l, v0, f1, f2, f3, f4, hown, hblk, hty, hb⟩ := hp.out
            have j0 : (0 : Int) ≤ j := by omega
            have hxl := hblk.1
            by_cases hlt2 : j < code.length
            · obtain ⟨bl2, off2, cp2, e1, r12, r22, hbl2, r42⟩ := readR_pos HC5.out (by omega)
              cases e1
              have j1 : (j : Int) < code.length := by omega
              have hcs := in_cells r42 j hlt2
              rw [← (bcell hb).1 _ _ hbl2, ← (bcell hb).1 _ _ hbl2, ← (bcell hb).1 _ _ hbl2, ← (bcell hb).1 _ _ hbl2] at hcs
              have HSN2 : Hid (code.take (j + 1) = code.take j ++ [code[j]]) := List.take_succ_eq_append_getElem hlt2
              generalize code[j] = ii at *
              obtain ⟨iop, ix, ia, ib⟩ := ii
              simp only at hcs
              obtain ⟨i0, i1, i2, i3⟩ := hcs
              have HB8 : Hid (Below wr.heap.size wr (wr.alloc (.cells #[.int .i64 iop, .int .u64 ix, .int .i64 ia, .int .i64 ib] 42))) := Lib.hid (b_alloc (Below.refl _ _) _)
              have HX8 : Hid (Blk (wr.alloc (.cells #[.int .i64 iop, .int .u64 ix, .int .i64 ia, .int .i64 ib] 42)) wr.heap.size [.int .i64 iop, .int .u64 ix, .int .i64 ia, .int .i64 ib]) := Lib.hid (blk_new _ _ _)
              have HOWN := Lib.hid hown; have HBLK := Lib.hid hblk; have HTY := Lib.hid hty
              have HF1 := Lib.hid f1; have HF2 := Lib.hid f2; have HF3 := Lib.hid f3; have HF4 := Lib.hid f4
              have HBZ := Lib.hid hb
              clear r42 hown hblk hty f1 f2 f3 f4 hb hp
              go_upto_region 9 with fail
              refine wp_named ?_
              intro W8 hW8
              have hb8 : Below wr.heap.size wr W8 := by rw [hW8]; exact HB8.out
              have X8 : Blk W8 wr.heap.size [.int .i64 iop, .int .u64 ix, .int .i64 ia, .int .i64 ib] := by rw [hW8]; exact HX8.out
              have blk8 := blk_below HBLK.out hb8
              have own8 := ownR_below HOWN.out hb8
              have hown2 := ownR_lt own8
              have hty2 := ownR_ty own8
              have ty8 := tyB_call HTY.out hb8
              have f18 := readI_below HF1.out hb8; have f28 := readI_below HF2.out hb8
              have f38 := slOk_keep HF3.out (keepT_ty (keepT_below hb8) (Or.inl rfl)); have f48 := slOk_keep HF4.out (keepT_ty (keepT_below hb8) (Or.inl rfl))
              have hw8s := hb8.size
              have hx8l := X8.1
              have hBW8 := b_call HBZ.out hb8
              have hBZs := HBZ.out.size
              have hne1 : some x ≠ v0.ownBlock := fun e => by have := (hown2 _ e.symm).1; omega
              have HO8 := Lib.hid own8; have HK8 := Lib.hid blk8; have HX8' := Lib.hid X8
              have HS8 : Hid (∀ w', Blk w' x [.slice p.a p.n p.c, .slice l.a l.n l.c, .int .i64 r, v0] → Blk w' wr.heap.size [.int .i64 iop, .int .u64 ix, .int .i64 ia, .int .i64 ib] → w'.cell? ⟨x, 3, none⟩ = some v0 ∧ w'.cell? ⟨wr.heap.size, 0, none⟩ = some (.int .i64 iop) ∧ w'.cell? ⟨wr.heap.size, 1, none⟩ = some (.int .u64 ix) ∧ w'.cell? ⟨wr.heap.size, 2, none⟩ = some (.int .i64 ia) ∧ w'.cell? ⟨wr.heap.size, 3, none⟩ = some (.int .i64 ib)) := Lib.hid (fun w' h1 h2 => by
                obtain ⟨_, _, _, a3, _⟩ := blk4 h1
                obtain ⟨b0, b1, b2, b3, _⟩ := blk4 h2
                exact ⟨a3, b0, b1, b2, b3⟩)
              have hne2 : some wr.heap.size ≠ v0.ownBlock := fun e => by have := ownR_lt HOWN.out _ e.symm; omega
              have hjl : (code.take j).length ≤ 100 := by simp; omega
              have HF18 := Lib.hid f18; have HF28 := Lib.hid f28; have HF38 := Lib.hid f38; have HF48 := Lib.hid f48
              have HT8 := Lib.hid ty8; have HT2 := Lib.hid hty2; have HBW8 := Lib.hid hBW8
              have hfz8 := blk8.2.2
              clear hW8 X8 own8 blk8 f18 f28 f38 f48 ty8 hty2 hBW8 i0 i1 i2 i3
              have S8 := HS8.out _ (blk_drew HK8.out) (blk_drew HX8'.out)
              refine wp_region_E (S := (fun w' => w'.cell? ⟨x, 3, none⟩ = some v0 ∧ w'.cell? ⟨wr.heap.size, 0, none⟩ = some (.int .i64 iop) ∧ w'.cell? ⟨wr.heap.size, 1, none⟩ = some (.int .u64 ix) ∧ w'.cell? ⟨wr.heap.size, 2, none⟩ = some (.int .i64 ia) ∧ w'.cell? ⟨wr.heap.size, 3, none⟩ = some (.int .i64 ib))) 7 (by kernel_rfl) S8 (fun hHeld => ?_)
              clear S8
              (refine wpAnyE_take (n := 12) (i := 0) (v := ?_) rfl (by kernel_rfl) (by kernel_rfl) (by kernel_rfl) (by kernel_rfl) (by kernel_rfl) (fun _ _ _ h => h) (Or.inl ⟨by rfl, ?_⟩) hHeld ?_; rotate_left; (focus (intro w hSw; (try dsimp only at hSw); go_simp; try (with_reducible rfl))); (try simp only [Act.put, List.getElem_toArray, List.getElem_cons_succ, List.getElem_cons_zero, List.setIfInBounds_toArray, List.set_cons_zero, List.set_cons_succ]))
              (refine wpAnyE_take (n := 12) (i := 1) (v := ?_) rfl (by kernel_rfl) (by kernel_rfl) (by kernel_rfl) (by kernel_rfl) (by kernel_rfl) (fun _ _ _ h => h) (Or.inl ⟨by rfl, ?_⟩) hHeld ?_; rotate_left; (focus (intro w hSw; (try dsimp only at hSw); go_simp; try (with_reducible rfl))); (try simp only [Act.put, List.getElem_toArray, List.getElem_cons_succ, List.getElem_cons_zero, List.setIfInBounds_toArray, List.set_cons_zero, List.set_cons_succ]))
              (refine wpAnyE_take (n := 12) (i := 2) (v := ?_) rfl (by kernel_rfl) (by kernel_rfl) (by kernel_rfl) (by kernel_rfl) (by kernel_rfl) (fun _ _ _ h => h) (Or.inl ⟨by rfl, ?_⟩) hHeld ?_; rotate_left; (focus (intro w hSw; (try dsimp only at hSw); go_simp; try (with_reducible rfl))); (try simp only [Act.put, List.getElem_toArray, List.getElem_cons_succ, List.getElem_cons_zero, List.setIfInBounds_toArray, List.set_cons_zero, List.set_cons_succ]))
              refine wpAnyE_ready (rs := [3]) (by kernel_rfl) (by simp) (AllReadyE.cons rfl (fun K hK => ?_) AllReadyE.nil)
              go_simp
              refine (ours_any _ _ _ _ _).mono ?_
              rintro e w9 ⟨rfl, hb9⟩
              have K9 := blk_below (blk_drew HK8.out) hb9
              have X9 := blk_below (blk_drew HX8'.out) hb9
              have hs9 := hb9.size
              simp only [World.size_drew] at hs9
              have B9 : Below W8.heap.size W8 w9 := b_call (b_drew (Below.refl _ _)) hb9
              have O9 := ownR_below HO8.out B9
              have HK9 := Lib.hid K9; have HX9 := Lib.hid X9; have HB9 := Lib.hid B9; have HO9 := Lib.hid O9
              clear K9 X9 B9 O9 hb9
              refine hK.out _ _ (HS8.out _ HK9.out HX9.out) (fun hHeld => ?_)
              clear hK K
              (try simp only [Act.put, List.getElem_toArray, List.getElem_cons_succ, List.getElem_cons_zero, List.setIfInBounds_toArray, List.set_cons_zero, List.set_cons_succ])
              refine wpAnyE_ready (rs := [4]) (by kernel_rfl) (by simp) (AllReadyE.cons rfl (fun K hK => ?_) AllReadyE.nil)
              go_simp
              refine hK.out _ _ (HS8.out _ (blk_alloc HK9.out _) (blk_alloc HX9.out _)) (fun hHeld => ?_)
              clear hK K
              (try simp only [Act.put, List.getElem_toArray, List.getElem_cons_succ, List.getElem_cons_zero, List.setIfInBounds_toArray, List.set_cons_zero, List.set_cons_succ])
              refine wpAnyE_ready (rs := [5]) (by kernel_rfl) (by simp) (AllReadyE.cons rfl (fun K hK => ?_) AllReadyE.nil)
              refine step_appendR rowPIn (by rfl) _ _ (by rfl) (x + 1) v0 (code.take j) (by rfl) (ownR_alloc HO9.out _) _ [⟨iop, ix, ia, ib⟩] (by rfl) (readR_new (c := inE) w9 _ ⟨iop, ix, ia, ib⟩) (by rw [List.length_singleton]; omega) (by rw [List.length_singleton]; unfold maxLen; omega) (by rw [World.size_alloc]; omega) ?_
              intro v10 w10 own10 hg10
              obtain ⟨C9, hC9⟩ : ∃ C9, C9 = code.take j ++ [⟨iop, ix, ia, ib⟩] := ⟨_, rfl⟩
              rw [← hC9] at own10
              obtain ⟨g10, cap10, rfl, gg10, _⟩ := ownR_form own10 (by rw [hC9]; simp)
              have HC9 : Hid (code.take (j + 1) = C9) := by
                show _ = _
                rw [HSN2.out, hC9]
              clear hC9
              have KA := blk_grown (blk_alloc HK9.out _) hg10 hne1
              have XA := blk_grown (blk_alloc HX9.out _) hg10 hne2
              have B9a : Below W8.heap.size W8 (w9.alloc (.cells (inE.cells ⟨iop, ix, ia, ib⟩).toArray INST)) := b_alloc HB9.out _
              have TA : tyB w10 x = some FUNT := tyB_grown (tyB_call HT8.out B9a) hg10 hne1
              have KI : KeepI W8 (w10.setCell ⟨x, 3, none⟩ (.slice (some ⟨g10, 0, none⟩) C9.length cap10)) := keepI_trans (keepI_below B9a) (keepI_trans (keepI_grown hg10 (fun j hj => ⟨INST, tyB_call (HT2.out j hj) B9a, by decide⟩)) (keepI_set TA (by decide) _))
              have B10 : Below W5.heap.size W5 w10 := b_gr0 (b_alloc (b_call HBW8.out HB9.out) _) hg10 (fun j hj => by have := (hown2 j hj).1; omega)
              have ST : FunSt W5 (w10.setCell ⟨x, 3, none⟩ (.slice (some ⟨g10, 0, none⟩) C9.length cap10)) x ps ls r (code.take (j + 1)) := by
                rw [HC9.out]
                exact ⟨p, l, _, readI_keepI KI HF38.out HF18.out, readI_keepI KI HF48.out HF28.out, slOk_keep HF38.out (keepI_ty KI), slOk_keep HF48.out (keepI_ty KI), ownR_kept own10 (gb_set (gb_refl w10 (some x)) 3 none _) (Or.inr (by intro e; have e2 : some g10 = some x := e; injection e2; omega)), blk_set KA 3 _, by rw [tyB_set]; exact TA, b_set B10 hxW _⟩
              have HSTT := Lib.hid ST
              refine hK.out _ _ (HS8.out _ KA XA) (fun hHeld => ?_)
              clear hK K
              (try simp only [Act.put, List.getElem_toArray, List.getElem_cons_succ, List.getElem_cons_zero, List.setIfInBounds_toArray, List.set_cons_zero, List.set_cons_succ])
              (refine wpAnyE_take (n := 12) (i := 6) (v := ?_) rfl (by kernel_rfl) (by kernel_rfl) (by kernel_rfl) (by kernel_rfl) (by kernel_rfl) (fun _ _ _ h => h) (Or.inl ⟨by rfl, ?_⟩) hHeld ?_; rotate_left; (focus (intro w hSw; (try dsimp only at hSw); go_simp; try (with_reducible rfl))); (try simp only [Act.put, List.getElem_toArray, List.getElem_cons_succ, List.getElem_cons_zero, List.setIfInBounds_toArray, List.set_cons_zero, List.set_cons_succ]))
              obtain ⟨z0, z1, z2, z3, zf⟩ := blk4 KA
              clear ST own10 hg10 KA XA B10 z0 z1 z2 hHeld KI TA B9a
              refine wpAnyE_ready (rs := [7]) (by kernel_rfl) (by simp) (AllReadyE.last rfl (fun K hK => ?_))
              go_simp
              refine hK.out _ _ (trivial) (fun hHeld => ?_)
              clear hK K
              (try simp only [Act.put, List.getElem_toArray, List.getElem_cons_succ, List.getElem_cons_zero, List.setIfInBounds_toArray, List.set_cons_zero, List.set_cons_succ])
              refine wpAnyE_done (by kernel_rfl) ?_
              go_wp2_with fail
              exact ⟨⟨j + 1, by omega, by go_num, HSTT⟩, by simp only [intOf]; omega⟩
            · rw [List.take_of_length_le (show code.length ≤ j by omega)] at hown
              obtain ⟨vv, aa, nn, cc2, LL, o1, o2, o3, o4, o5, o6, o7⟩ := ourSt_below HO5.out hb
              have hLL : LL.length ≤ 17 := by
                have q := allF_len (allT_F o2)
                rw [q, List.length_take]; omega
              obtain ⟨va, vc, ev, _⟩ := readR_len (ownR_read hown)
              subst ev
              have hd : DeepF wr ⟨p, l, r, ⟨va, code.length, vc⟩⟩ ⟨ps, ls, r, code⟩ := ⟨f1, f2, rfl, ownR_read hown⟩
              have ht : FnT wr ⟨p, l, r, ⟨va, code.length, vc⟩⟩ := ⟨f3, f4, ownR_slOk hown⟩
              obtain ⟨y0, y1, y2, y3, yf⟩ := blk4 o5
              obtain ⟨x0, x1, x2, x3, xf⟩ := blk4 hblk
              have hol := ownR_lt o1
              have hot := ownR_ty o1
              have hgl2 := o5.1
              have hne : some g ≠ vv.ownBlock := fun e => by have := (hol _ e.symm).1; omega
              have HD := Lib.hid hd; have HT := Lib.hid ht
              have HO1 := Lib.hid o1; have HO2 := Lib.hid o2; have HO3 := Lib.hid o3; have HO4 := Lib.hid o4; have HO5' := Lib.hid o5; have HO6 := Lib.hid o6; have HO7 := Lib.hid o7
              have HOT := Lib.hid hot
              clear hd ht o1 o2 o3 o4 o5 o6 o7 f1 f2 f3 f4 hown hblk hty hb hp hot
              go_wp2_with (at_builtin; refine appendR rowPFn rfl _ _ rfl (g + 1) vv LL rfl (ownR_alloc HO1.out _) _ [⟨p, l, r, ⟨va, code.length, vc⟩⟩] rfl (readR_new (c := fnE) wr _ ⟨p, l, r, ⟨va, code.length, vc⟩⟩) ?c1 ?c2 ?c3 ?_; (case c1 => (rw [List.length_singleton]; omega)); (case c2 => (rw [List.length_singleton]; unfold maxLen; omega)); (case c3 => (rw [World.size_alloc]; omega)); intro v1 w1 own1 hg1; obtain ⟨L9, hL9⟩ : ∃ L9, L9 = LL ++ [⟨p, l, r, ⟨va, code.length, vc⟩⟩] := ⟨_, rfl⟩; rw [← hL9] at own1; obtain ⟨g1, cap1, rfl, gg1, _⟩ := ownR_form own1 (by rw [hL9]; simp); have KG := blk_grown (blk_alloc HO5'.out _) hg1 hne; have HKG := Lib.hid KG; have HOWN1 := Lib.hid own1; have HG1 := Lib.hid hg1; have HL9 := Lib.hid hL9; clear hL9 own1 hg1; obtain ⟨z0, z1, z2, z3, zf⟩ := blk4 KG; clear KG z0 z1 z2)
              have TG : tyB w1 g = some PROT := tyB_grown (tyB_alloc HO6.out _) HG1.out hne
              have K : KeepT wr (w1.setCell ⟨g, 3, none⟩ (.slice (some ⟨g1, 0, none⟩) L9.length cap1)) := keepT_trans (keepT_below (b_alloc (Below.refl _ _) _)) (keepT_trans (keepT_grown HG1.out (fun j hj => ⟨FUNT, tyB_alloc (HOT.out j hj) _, by decide, by decide⟩)) (keepT_set TG (by decide) (by decide) _))
              have BG : Below W.heap.size W w1 := b_gr0 (b_alloc HO7.out _) HG1.out (fun j hj => by have := (hol j hj).1; omega)
              have FIN : OurSt W (w1.setCell ⟨g, 3, none⟩ (.slice (some ⟨g1, 0, none⟩) L9.length cap1)) g u P.gl m (P.fs.take (k + 1)) := by
                refine ⟨_, aa, nn, cc2, L9, ownR_kept HOWN1.out (gb_set (gb_refl w1 (some g)) 3 none _) (Or.inr (by intro e; have e2 : some g1 = some g := e; injection e2; omega)), ?_, readI_keep K HO4.out HO3.out, slOk_keep HO4.out (keepT_ty K (Or.inl rfl)), blk_set HKG.out 3 _, by rw [tyB_set]; exact TG, b_set BG hgW _⟩
                have q := allT_snoc (deepF_keep K HT.out HD.out) (fnT_keep K HT.out) (allT_keep K HO2.out)
                rw [← HL9.out, ← HSN.out] at q
                exact q
              have HFIN := Lib.hid FIN
              clear FIN K BG TG
              first
                | go_roundw
                  case rel => exact ⟨k + 1, by omega, by go_num, HFIN⟩
                  case measure => simp [intOf]; omega
                | exact ⟨⟨k + 1, by omega, by go_num, HFIN⟩, by simp only [intOf]; omega⟩
      · obtain rfl : k = L.length := by omega
        obtain ⟨vv, aa, nn, cc2, LL, o1, o2, o3, o4, o5, o6, o7⟩ := hp.out
        rw [List.take_of_length_le (by have := HFL.out; omega)] at o2
        have R5 := blk4 (blk_below HBR.out hbw)
        have R5l := (blk_below HBR.out hbw).1
        have RB := Lib.hid (blk_below HBR.out hbw)
        have RT := Lib.hid (tyB_call HBRT.out hbw)
        have BWW := Lib.hid (b_call hBW hbw)
        obtain ⟨va, vc, ev, _⟩ := readR_len (ownR_read o1)
        obtain ⟨n0, hn0⟩ : ∃ n0, n0 = LL.length := ⟨_, rfl⟩
        rw [← hn0] at ev
        subst ev
        clear hn0
        obtain ⟨e0, e1, e2, e3, ef⟩ := R5
        obtain ⟨f0, f1, f2, f3, ff⟩ := blk4 o5
        have HOZ := Lib.hid o1
        have hOl := ownR_lt o1
        have HO2 := Lib.hid o2; have HO3 := Lib.hid o3; have HO4 := Lib.hid o4
        have hblt := R5l
        clear o1 o2 o3 o4 o5 o6 o7 hbw hp
        go_wp2_with fail
        refine post_named ?_
        intro wF hwF
        have BF : Blk wF (w.heap.size + 1) [.bool u, .slice aa nn cc2, .int .i64 m, .slice va n0 vc] := by rw [hwF]; exact blk_set (blk_set (blk_set (blk_set RB.out 0 _) 1 _) 2 _) 3 _
        have GF := gb_set (gb_set (gb_set (gb_set (gb_refl wr (some (w.heap.size + 1))) 0 none (.bool u)) 1 none (.slice aa nn cc2)) 2 none (.int .i64 m)) 3 none (.slice va n0 vc)
        rw [← hwF] at GF
        have hmT : ∀ (o : Nat) (u : Value) (w2 : World), tyB w2 (w.heap.size + 1) = some PROT → KeepT w2 (w2.setCell ⟨w.heap.size + 1, o, none⟩ u) := fun o u w2 h => keepT_set (p := ⟨w.heap.size + 1, o, none⟩) h (by decide) (by decide) u
        have KF : KeepT wr wF := by rw [hwF]; exact keepT_trans (keepT_trans (keepT_trans (hmT 0 _ _ RT.out) (hmT 1 _ _ (by rw [tyB_set]; exact RT.out))) (hmT 2 _ _ (by rw [tyB_set, tyB_set]; exact RT.out))) (hmT 3 _ _ (by rw [tyB_set, tyB_set, tyB_set]; exact RT.out))
        have FB : Below w.heap.size w wF := b_grown BWW.out GF (by omega)
        have OF := ownR_kept HOZ.out GF (by
          cases hv : (Value.slice va n0 vc).ownBlock with
          | none => exact Or.inl rfl
          | some j => exact Or.inr (by intro e; injection e with e; have := (hOl j hv).1; omega))
        clear hwF GF
        obtain ⟨c0, c1, c2, c3, _⟩ := blk4 BF
        exact bodyPost_ret (v := aggP ⟨u, ⟨aa, nn, cc2⟩, m, ⟨va, n0, vc⟩⟩) (by simp [results, Tryd.results12, go_sem, c0, c1, c2, c3]; rfl) rfl ⟨_, rfl, ⟨HU.out, readI_keep KF HO4.out HO3.out, HM.out, LL, ownR_read OF, allT_F (allT_keep KF HO2.out)⟩, FB⟩
end Go.Proofs.YtedmjlhgpdeafaaDoor
