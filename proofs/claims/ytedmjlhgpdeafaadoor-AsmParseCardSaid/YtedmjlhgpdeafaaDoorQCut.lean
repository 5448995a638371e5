/- Layer 25's Cut: a program that is not too great. Conditions: the program reads as lists. Layer 25's Cut, and of what it is made. Conditions: the program reads as lists. -/
import Derived.Test.YtedmjlhgpdeafaaDoorQInts
import Derived.Test.YtedmjlhgpdeafaaDoorQHeldE
import Derived.Deep.LoopGhost
import Derived.Deep.DeepCutAuto
import Derived.Deep.CutBlock
namespace Go.Proofs.YtedmjlhgpdeafaaDoor
section
open Go.RowKit
set_option linter.unusedVariables false
set_option linter.unusedSimpArgs false
attribute [local go_sem] over_cell over_frozen
theorem rowFn : IsRow Tryd.prog 23 60 4 80 (.agg #[.slice none 0 0, .slice none 0 0, .int .i64 0, .slice none 0 0]) := ⟨Tryd.underlying23, by kernel_rfl, by rfl⟩
def c10 (n : Nat) : Nat := if 10 < n then 10 else n
def c100 (n : Nat) : Nat := if 100 < n then 100 else n
theorem readI_c10 {w : World} {a : Option Addr} {n c : Nat} {xs : List Int} (h : ReadI w (.slice a n c) xs) : ReadI w (.slice a (c10 n) c) (xs.take 10) := by
  have hn : n = xs.length := by obtain ⟨_, _, e, _⟩ := h; cases e; rfl
  unfold c10
  by_cases q : 10 < n
  · rw [if_pos q]; exact readI_take h (by omega)
  · rw [if_neg q, List.take_of_length_le (by omega)]; exact h
theorem readN_c100 {w : World} {a : Option Addr} {n c : Nat} {xs : List In4} (h : ReadR inE w (.slice a n c) xs) : ReadR inE w (.slice a (c100 n) c) (xs.take 100) := by
  have hn : n = xs.length := by obtain ⟨_, _, e, _⟩ := h; cases e; rfl
  unfold c100
  by_cases q : 100 < n
  · rw [if_pos q]; exact readR_take h (by omega)
  · rw [if_neg q, List.take_of_length_le (by omega)]; exact h
theorem ints_any (a : Option Addr) (n c : Nat) (w : World) (hc1 : n ≤ c) (hc2 : c ≤ maxLen) : Calls Tryd.prog 53 #[.slice a n c] w fun e w' => e = .returned (.slice a (c10 n) c) ∧ w = w' := by
  have hcm := cap_le hc2
  unfold c10
  by_cases q : 10 < n
  · rw [if_pos q]
    have q1 : (10 : Int) < n := by omega
    have q2 : (10 : Int) ≤ c := by omega
    have q3 : 10 ≤ c := by omega
    go_enter Tryd.func53, Tryd.ntmps53
    go_wp2_with fail
    go_ret
    exact ⟨rfl, rfl⟩
  · rw [if_neg q]
    have q1 : ¬ (10 : Int) < n := by omega
    go_enter Tryd.func53, Tryd.ntmps53
    go_wp2_with fail
    go_ret
    exact ⟨rfl, rfl⟩
theorem slr_cap {w : World} {a : Option Addr} {n c : Nat} {α : Type} {e : Elt α} {L : List α} (h : ReadR e w (.slice a n c) L) : n ≤ c ∧ c ≤ maxLen ∧ n = L.length := by
  obtain ⟨_, _, q, h1, h2, _⟩ := h; cases q; exact ⟨h1, h2, rfl⟩
theorem sli_cap {w : World} {a : Option Addr} {n c : Nat} {L : List Int} (h : ReadI w (.slice a n c) L) : n ≤ c ∧ c ≤ maxLen ∧ n = L.length := slr_cap (readI_R h)
def cutV (f : FnV) : FnV := ⟨⟨f.p.a, c10 f.p.n, f.p.c⟩, ⟨f.l.a, c10 f.l.n, f.l.c⟩, f.r, ⟨f.c.a, c100 f.c.n, f.c.c⟩⟩
theorem deep_cut {w : World} {v : FnV} {f : FnM} (h : DeepF w v f) : DeepF w (cutV v) (cutF f) := ⟨readI_c10 h.p, readI_c10 h.l, h.r, readN_c100 h.c⟩
/-- A function's cells, one by one. -/
theorem fn_cells {w : World} {b o : Nat} {L : List FnV} (h4 : ∀ k, (h : k < L.length) → ∀ j, j < fnE.size → w.cell? ⟨b, o + (k * fnE.size + j), none⟩ = (fnE.cells L[k])[j]?) (k : Nat) (hk : k < L.length) :
    w.cell? ⟨b, o + k * 4, none⟩ = some (.slice L[k].p.a L[k].p.n L[k].p.c) ∧ w.cell? ⟨b, o + k * 4 + 1, none⟩ = some (.slice L[k].l.a L[k].l.n L[k].l.c) ∧ w.cell? ⟨b, o + k * 4 + 2, none⟩ = some (.int .i64 L[k].r) ∧ w.cell? ⟨b, o + k * 4 + 3, none⟩ = some (.slice L[k].c.a L[k].c.n L[k].c.c) := by
  have h4' : ∀ (j : Nat), j < 4 → w.cell? ⟨b, o + k * 4 + j, none⟩ = (fnE.cells L[k])[j]? := fun j hj => by
    have := h4 k hk j hj
    rw [Nat.add_assoc]; exact this
  exact ⟨h4' 0 (by omega), h4' 1 (by omega), h4' 2 (by omega), h4' 3 (by omega)⟩
theorem b_gr0 {W w w' : World} {r : Option Nat} (h : Below W.heap.size W w) (hg : w.grownBy w' r) (hr : ∀ j, r = some j → W.heap.size ≤ j) : Below W.heap.size W w' := h.grown hg h.size hr
theorem wp_named {P : Program} {c : Code} {Q : Exit → Act → World → Prop} {a : Act} {w : World} (h : ∀ w1, w1 = w → Code.wp P c Q a w1) : Code.wp P c Q a w := h _ rfl
theorem post_named {P : Program} {fn : Func} {R : Ending → World → Prop} {e : Exit} {a : Act} {w : World} (h : ∀ w1, w1 = w → bodyPost P fn R e a w1) : bodyPost P fn R e a w := h _ rfl
theorem allF_cut {w : World} : ∀ {vs : List FnV} {fs : List FnM} (k : Nat), AllF w vs fs → AllF w ((vs.take k).map cutV) ((fs.take k).map cutF)
  | [], [], k, _ => by cases k <;> exact trivial
  | v :: vs, f :: fs, 0, _ => trivial
  | v :: vs, f :: fs, k + 1, h => ⟨deep_cut h.1, allF_cut k h.2⟩
  | [], _ :: _, _, h => h.elim
  | _ :: _, [], _, h => h.elim
/-- What Cut's variable holds. -/
def CutSt (W wr : World) (g : Nat) (u : Bool) (gl : Value) (m : Int) (L : List FnV) : Prop := ∃ v, OwnR fnE 60 wr (g + 1) v L ∧ Blk wr g [.bool u, gl, .int .i64 m, v] ∧ Below W.heap.size W wr
end
section
open Go.RowKit
set_option linter.unusedVariables false
set_option linter.unusedSimpArgs false
attribute [local go_sem] over_cell over_frozen
/-- A program that Cut has made: its lists are older ones, but for the functions' own row. -/
structure CutMade (W0 : World) (B : Nat) (w' : World) (q : PrV) (C : PrM) : Prop where
  u : q.u = C.u
  m : q.m = C.m
  g : ReadI W0 (.slice q.g.a q.g.n q.g.c) C.gl
  f : ∃ L, OwnR fnE 60 w' B (.slice q.f.a q.f.n q.f.c) L ∧ AllF W0 L C.fs
theorem cutMade_grown {W0 w w' : World} {B j : Nat} {q : PrV} {C : PrM} (h : CutMade W0 B w q C) (hg : w.grownBy w' (some j)) (hj : j < B) : CutMade W0 B w' q C := by
  obtain ⟨h1, h2, h3, L, h4, h5⟩ := h
  refine ⟨h1, h2, h3, L, ownR_kept h4 hg ?_, h5⟩
  cases hv : (Value.slice q.f.a q.f.n q.f.c).ownBlock with
  | none => exact Or.inl rfl
  | some i => exact Or.inr (by intro e; injection e with e; have := (ownR_lt h4 i hv).1; omega)
theorem cutM_end {W0 w' : World} {u : Bool} {ga : Option Addr} {gn gc : Nat} {m : Int} {va : Option Addr} {n0 vc B : Nat} {L : List FnV} {P : PrM} {k : Nat} (hu : u = P.u) (hg : ReadI W0 (.slice ga (c10 gn) gc) (P.gl.take 10)) (hm : m = P.m) (hA : AllF W0 L P.fs) (hk : k = 17 ∨ (k = L.length ∧ k ≤ 17)) (own : OwnR fnE 60 w' B (.slice va n0 vc) ((L.take k).map cutV)) :
    CutMade W0 B w' ⟨u, ⟨ga, c10 gn, gc⟩, m, ⟨va, n0, vc⟩⟩ (cutP P) := by
  refine ⟨hu, hm, hg, _, own, ?_⟩
  have e : P.fs.take 17 = P.fs.take k := by
    have hl := allF_len hA
    rcases hk with rfl | ⟨h1, h2⟩
    · rfl
    · rw [List.take_of_length_le (by omega), List.take_of_length_le (by omega)]
  show AllF W0 _ ((P.fs.take 17).map cutF)
  rw [e]
  exact allF_cut k hA
set_option maxRecDepth 100000 in
set_option maxHeartbeats 2000000 in
theorem cut_made (p : PrV) (P : PrM) (W0 w : World) (h0 : ReadP W0 p P) (hb0 : Below W0.heap.size W0 w) : Calls Tryd.prog 21 #[aggP p] w fun e w' => ∃ q, e = .returned (aggP q) ∧ CutMade W0 w.heap.size w' q (cutP P) ∧ Below w.heap.size w w' := by
  obtain ⟨u, ⟨ga, gn, gc⟩, m, ⟨fa, fn, fc⟩⟩ := p
  obtain ⟨hu, hg0, hm, L, hL0, hA0⟩ := h0
  simp only at hu hm
  unfold Sl.v at hg0 hL0
  simp only at hg0 hL0
  have hg := readI_below hg0 hb0
  have hL := readR_below hL0 hb0
  have hA := allF_below hb0 hA0
  have HG0 := Lib.hid (readI_c10 hg0)
  have HA0 := Lib.hid hA0
  clear hg0 hL0 hA0 hb0
  obtain ⟨hg1, hg2, hg3⟩ := sli_cap hg
  obtain ⟨hf1, hf2, hf3⟩ := slr_cap hL
  subst hf3
  have hfm := cap_le hf2
  have HCI := Lib.hid (fun w => ints_any ga gn gc w hg1 hg2)
  have hGT := readI_c10 hg
  have HGT := Lib.hid hGT
  have HL := Lib.hid hL; have HA := Lib.hid hA
  have HU := Lib.hid hu; have HM := Lib.hid hm
  clear hg hL hA hGT hu hm hg3
  unfold aggP Sl.v
  simp only
  go_enter Tryd.func21, Tryd.ntmps21
  go_upto_region 1 with fail
  refine wp_named ?_
  intro W hW
  have BX : Blk W w.heap.size [.bool u, .slice ga gn gc, .int .i64 m, .slice fa L.length fc] := by rw [hW]; exact blk_alloc (blk_new _ _ _) _
  have BR : Blk W (w.heap.size + 1) [.bool false, .slice none 0 0, .int .i64 0, .slice none 0 0] := by
    have q := blk_new (w.alloc (.cells #[.bool u, .slice ga gn gc, .int .i64 m, .slice fa L.length fc] 25)) #[.bool false, .slice none 0 0, .int .i64 0, .slice none 0 0] 25
    rw [World.size_alloc] at q
    rw [hW]; exact q
  have hBW : Below w.heap.size w W := by rw [hW]; exact b_alloc (b_alloc (Below.refl _ _) _) _
  have hWs : w.heap.size + 2 ≤ W.heap.size := by have := BR.1; omega
  have HBX := Lib.hid BX; have HBR := Lib.hid BR
  obtain ⟨x0, x1, x2, x3, xf⟩ := blk4 BX
  clear hW BX BR
  go_cut [3] (fun s wx => ∃ g, s = .pointer (some ⟨g, 0, none⟩) ∧ W.heap.size ≤ g ∧ CutSt W wx g u (.slice ga (c10 gn) gc) m [])
  case first =>
    have HW : Hid (∀ w', Below W.heap.size W w' → w'.cell? ⟨w.heap.size, 0, none⟩ = some (.bool u) ∧ w'.cell? ⟨w.heap.size, 1, none⟩ = some (.slice ga gn gc) ∧ w'.cell? ⟨w.heap.size, 2, none⟩ = some (.int .i64 m)) := Lib.hid (fun w' hb => by
      obtain ⟨y0, y1, y2, y3, yf⟩ := blk4 (blk_below HBX.out hb)
      exact ⟨y0, y1, y2⟩)
    go_region_held3 (fun w' => w'.cell? ⟨w.heap.size, 0, none⟩ = some (.bool u) ∧ w'.cell? ⟨w.heap.size, 1, none⟩ = some (.slice ga gn gc) ∧ w'.cell? ⟨w.heap.size, 2, none⟩ = some (.int .i64 m))
      (exact HW.out _ (by (repeat' (first | exact Below.refl _ _ | assumption | refine b_alloc ?_ _ | refine b_drew ?_ | refine b_set ?_ (by simp) _))))
      (first | (go_at_call 53; refine (HCI.out _).mono ?_; rintro e w' ⟨rfl, rfl⟩))
    all_goals
      go_wp2_with fail
      go_meet
      case rel => exact ⟨_, rfl, Nat.le_refl _, .slice none 0 0, ownR_nil _ _, blk_drew (blk_new W #[.bool u, .slice ga (c10 gn) gc, .int .i64 m, .slice none 0 0] _), by (repeat' (first | exact Below.refl _ _ | assumption | refine b_alloc ?_ _ | refine b_drew ?_))⟩
  case rest =>
    obtain ⟨g, rfl, hgW, hst⟩ := hcut
    have hx3 : wc.cell? ⟨w.heap.size, 3, none⟩ = some (.slice fa L.length fc) := by
      obtain ⟨v0, _, _, hb⟩ := hst
      exact (blk4 (blk_below HBX.out hb)).2.2.2.1
    have HST := Lib.hid hst
    clear x0 x1 x2 x3 xf hst
    go_wp2_with fail
    go_loopw [18] (fun i wr => ∃ k : Nat, k ≤ L.length ∧ k ≤ 17 ∧ i = .int .i64 k ∧ Hid (CutSt W wr g u (.slice ga (c10 gn) gc) m ((L.take k).map cutV))) (fun i _ => L.length - (intOf i).toNat)
    case atStart => exact ⟨0, Nat.zero_le _, by omega, rfl, HST.out⟩
    case round =>
      obtain ⟨k, hk, hk17, rfl, hp⟩ := hrel
      obtain ⟨v0, hown, hblk, hbw⟩ := hp.out
      have hgl := hblk.1
      obtain ⟨y0, y1, y2, y3, yf⟩ := blk4 hblk
      have k0 : (0 : Int) ≤ k := by omega
      have k17 : (k : Int) ≤ 17 := by omega
      have hrd := readR_below HL.out hBW
      by_cases hlt : k < L.length
      · obtain ⟨bl, off, cp, e1, r1, r2, hbl, r4⟩ := readR_pos hrd (by omega)
        cases e1
        have k1 : (k : Int) < L.length := by omega
        have hcs := fn_cells r4 k hlt
        rw [← (bcell hbw).1 _ _ hbl, ← (bcell hbw).1 _ _ hbl, ← (bcell hbw).1 _ _ hbl, ← (bcell hbw).1 _ _ hbl] at hcs
        have hAF : ∃ f, DeepF w L[k] f := ⟨_, allF_at HA.out k hlt (by rw [← allF_len HA.out]; exact hlt)⟩
        have HSN : Hid ((L.take (k + 1)).map cutV = (L.take k).map cutV ++ [cutV L[k]]) := by
          show _ = _
          rw [List.take_succ_eq_append_getElem hlt, List.map_append]; rfl
        generalize L[k] = f at *
        obtain ⟨⟨pa, pn, pc⟩, ⟨la, ln, lc⟩, r, ⟨ca, cn, cc⟩⟩ := f
        simp only at hcs
        obtain ⟨d0, d1, d2, d3⟩ := hcs
        obtain ⟨fm, df⟩ := hAF
        have hpc := sli_cap df.p
        have hlc := sli_cap df.l
        have hcc := slr_cap df.c
        simp only at hpc hlc hcc
        have hp1 := hpc.1; have hp2 := hpc.2.1; have hl1 := hlc.1; have hl2 := hlc.2.1
        have hc1 := hcc.1
        have hc2 := cap_le hcc.2.1
        have hc3 : (cn : Int) ≤ cc := by omega
        have hown2 := ownR_lt hown
        have HOWN := Lib.hid hown; have HBLK := Lib.hid hblk
        have HBW := Lib.hid hbw
        clear r4 hrd df hpc hlc hcc hown hblk hp hbw
        by_cases h17 : k < 17
        · have t17 : ¬ (17 : Int) ≤ k := by omega
          have HB5 : Hid (Below wr.heap.size wr (wr.alloc (.cells #[.slice pa pn pc, .slice la ln lc, .int .i64 r, .slice ca cn cc] 60))) := Lib.hid (b_alloc (Below.refl _ _) _)
          have HX5 : Hid (Blk (wr.alloc (.cells #[.slice pa pn pc, .slice la ln lc, .int .i64 r, .slice ca cn cc] 60)) wr.heap.size [.slice pa pn pc, .slice la ln lc, .int .i64 r, .slice ca cn cc]) := Lib.hid (blk_new _ _ _)
          rcases (show (100 < cn ∧ c100 cn = 100) ∨ (¬ 100 < cn ∧ c100 cn = cn) by unfold c100; split <;> omega) with ⟨q, hq⟩ | ⟨q, hq⟩
          · have q1 : (100 : Int) < cn := by omega
            have q2 : (100 : Int) ≤ cc := by omega
            have q3 : 100 ≤ cc := by omega
            have HQ := Lib.hid hq; clear hq
            go_upto_region 9 with fail
            refine wp_named ?_
            intro W5 hW5
            have hb5 : Below wr.heap.size wr W5 := by rw [hW5]; exact HB5.out
            have X5 : Blk W5 wr.heap.size [.slice pa pn pc, .slice la ln lc, .int .i64 r, .slice ca cn cc] := by rw [hW5]; exact HX5.out
            have own5 := ownR_below HOWN.out hb5
            have blk5 := blk_below HBLK.out hb5
            have HX := Lib.hid X5; have HO5 := Lib.hid own5; have HK5 := Lib.hid blk5
            have HS5 : Hid (∀ w', Blk w' g [.bool u, .slice ga (c10 gn) gc, .int .i64 m, v0] → Blk w' wr.heap.size [.slice pa pn pc, .slice la ln lc, .int .i64 r, .slice ca cn cc] → w'.cell? ⟨g, 3, none⟩ = some v0 ∧ w'.cell? ⟨wr.heap.size, 0, none⟩ = some (.slice pa pn pc) ∧ w'.cell? ⟨wr.heap.size, 1, none⟩ = some (.slice la ln lc) ∧ w'.cell? ⟨wr.heap.size, 2, none⟩ = some (.int .i64 r)) := Lib.hid (fun w' h1 h2 => by
              obtain ⟨_, _, _, a3, _⟩ := blk4 h1
              obtain ⟨b0, b1, b2, _, _⟩ := blk4 h2
              exact ⟨a3, b0, b1, b2⟩)
            have hw5s := hb5.size
            have hgl5 := blk5.1
            have hfz5 := blk5.2.2
            have hx5l := X5.1
            have hne1 : some g ≠ v0.ownBlock := fun e => by have := (hown2 _ e.symm).1; omega
            have hne2 : some wr.heap.size ≠ v0.ownBlock := fun e => by have := (hown2 _ e.symm).2; omega
            clear hW5 X5 own5 blk5 d0 d1 d2 d3 y0 y1 y2 y3 yf
            have HRN : Hid (ReadR fnE (W5.alloc (.cells #[.slice pa (c10 pn) pc, .slice la (c10 ln) lc, .int .i64 r, .slice ca 100 cc] 60)).drew (.slice (some ⟨W5.heap.size, 0, none⟩) 1 1) [⟨⟨pa, c10 pn, pc⟩, ⟨la, c10 ln, lc⟩, r, ⟨ca, 100, cc⟩⟩]) := readR_new (c := fnE) W5 _ ⟨⟨pa, c10 pn, pc⟩, ⟨la, c10 ln, lc⟩, r, ⟨ca, 100, cc⟩⟩
            have hLk : ((L.take k).map cutV).length ≤ 17 := by simp; omega
            have S5 := HS5.out _ (blk_drew HK5.out) (blk_drew HX.out)
            refine wp_region_E (S := (fun w' => w'.cell? ⟨g, 3, none⟩ = some v0 ∧ w'.cell? ⟨wr.heap.size, 0, none⟩ = some (.slice pa pn pc) ∧ w'.cell? ⟨wr.heap.size, 1, none⟩ = some (.slice la ln lc) ∧ w'.cell? ⟨wr.heap.size, 2, none⟩ = some (.int .i64 r))) 15 (by kernel_rfl) S5 (fun hHeld => ?_)
            clear S5
            (refine wpAnyE_take (n := 12) (i := 0) (v := ?_) rfl (by kernel_rfl) (by kernel_rfl) (by kernel_rfl) (by kernel_rfl) (by kernel_rfl) (fun _ _ _ h => h) (Or.inl ⟨by rfl, ?_⟩) hHeld ?_; rotate_left; (focus (intro w hSw; (try dsimp only at hSw); go_simp; try (with_reducible rfl))); (try simp only [Act.put, List.getElem_toArray, List.getElem_cons_succ, List.getElem_cons_zero, List.setIfInBounds_toArray, List.set_cons_zero, List.set_cons_succ]))
            (refine wpAnyE_take (n := 12) (i := 1) (v := ?_) rfl (by kernel_rfl) (by kernel_rfl) (by kernel_rfl) (by kernel_rfl) (by kernel_rfl) (fun _ _ _ h => h) (Or.inl ⟨by rfl, ?_⟩) hHeld ?_; rotate_left; (focus (intro w hSw; (try dsimp only at hSw); go_simp; try (with_reducible rfl))); (try simp only [Act.put, List.getElem_toArray, List.getElem_cons_succ, List.getElem_cons_zero, List.setIfInBounds_toArray, List.set_cons_zero, List.set_cons_succ]))
            (refine wpAnyE_take (n := 12) (i := 2) (v := ?_) rfl (by kernel_rfl) (by kernel_rfl) (by kernel_rfl) (by kernel_rfl) (by kernel_rfl) (fun _ _ _ h => h) (Or.inl ⟨by rfl, ?_⟩) hHeld ?_; rotate_left; (focus (intro w hSw; (try dsimp only at hSw); go_simp; try (with_reducible rfl))); (try simp only [Act.put, List.getElem_toArray, List.getElem_cons_succ, List.getElem_cons_zero, List.setIfInBounds_toArray, List.set_cons_zero, List.set_cons_succ]))
            (refine wpAnyE_take (n := 12) (i := 3) (v := ?_) rfl (by kernel_rfl) (by kernel_rfl) (by kernel_rfl) (by kernel_rfl) (by kernel_rfl) (fun _ _ _ h => h) (Or.inl ⟨by rfl, ?_⟩) hHeld ?_; rotate_left; (focus (intro w hSw; (try dsimp only at hSw); go_simp; try (with_reducible rfl))); (try simp only [Act.put, List.getElem_toArray, List.getElem_cons_succ, List.getElem_cons_zero, List.setIfInBounds_toArray, List.set_cons_zero, List.set_cons_succ]))
            (refine wpAnyE_take (n := 12) (i := 5) (v := ?_) rfl (by kernel_rfl) (by kernel_rfl) (by kernel_rfl) (by kernel_rfl) (by kernel_rfl) (fun _ _ _ h => h) (Or.inl ⟨by rfl, ?_⟩) hHeld ?_; rotate_left; (focus (intro w hSw; (try dsimp only at hSw); go_simp; try (with_reducible rfl))); (try simp only [Act.put, List.getElem_toArray, List.getElem_cons_succ, List.getElem_cons_zero, List.setIfInBounds_toArray, List.set_cons_zero, List.set_cons_succ]))
            (refine wpAnyE_take (n := 12) (i := 6) (v := ?_) rfl (by kernel_rfl) (by kernel_rfl) (by kernel_rfl) (by kernel_rfl) (by kernel_rfl) (fun _ _ _ h => h) (Or.inl ⟨by rfl, ?_⟩) hHeld ?_; rotate_left; (focus (intro w hSw; (try dsimp only at hSw); go_simp; try (with_reducible rfl))); (try simp only [Act.put, List.getElem_toArray, List.getElem_cons_succ, List.getElem_cons_zero, List.setIfInBounds_toArray, List.set_cons_zero, List.set_cons_succ]))
            (refine wpAnyE_take (n := 12) (i := 8) (v := ?_) rfl (by kernel_rfl) (by kernel_rfl) (by kernel_rfl) (by kernel_rfl) (by kernel_rfl) (fun _ _ _ h => h) (Or.inl ⟨by rfl, ?_⟩) hHeld ?_; rotate_left; (focus (intro w hSw; (try dsimp only at hSw); go_simp; try (with_reducible rfl))); (try simp only [Act.put, List.getElem_toArray, List.getElem_cons_succ, List.getElem_cons_zero, List.setIfInBounds_toArray, List.set_cons_zero, List.set_cons_succ]))
            (refine wpAnyE_take (n := 12) (i := 9) (v := ?_) rfl (by kernel_rfl) (by kernel_rfl) (by kernel_rfl) (by kernel_rfl) (by kernel_rfl) (fun _ _ _ h => h) (Or.inl ⟨by rfl, ?_⟩) hHeld ?_; rotate_left; (focus (intro w hSw; (try dsimp only at hSw); go_simp; try (with_reducible rfl))); (try simp only [Act.put, List.getElem_toArray, List.getElem_cons_succ, List.getElem_cons_zero, List.setIfInBounds_toArray, List.set_cons_zero, List.set_cons_succ]))
            (refine wpAnyE_take (n := 12) (i := 10) (v := ?_) rfl (by kernel_rfl) (by kernel_rfl) (by kernel_rfl) (by kernel_rfl) (by kernel_rfl) (fun _ _ _ h => h) (Or.inl ⟨by rfl, ?_⟩) hHeld ?_; rotate_left; (focus (intro w hSw; (try dsimp only at hSw); go_simp; try (with_reducible rfl))); (try simp only [Act.put, List.getElem_toArray, List.getElem_cons_succ, List.getElem_cons_zero, List.setIfInBounds_toArray, List.set_cons_zero, List.set_cons_succ]))
            refine wpAnyE_ready (rs := [4]) (by kernel_rfl) (by simp) (AllReadyE.cons rfl (fun K hK => ?_) AllReadyE.nil)
            go_simp
            refine (ints_any _ _ _ _ (by assumption) (by assumption)).mono ?_
            rintro e w' ⟨rfl, rfl⟩
            refine hK.out _ _ (hHeld) (fun hHeld => ?_)
            clear hK K
            (try simp only [Act.put, List.getElem_toArray, List.getElem_cons_succ, List.getElem_cons_zero, List.setIfInBounds_toArray, List.set_cons_zero, List.set_cons_succ])
            refine wpAnyE_ready (rs := [7]) (by kernel_rfl) (by simp) (AllReadyE.cons rfl (fun K hK => ?_) AllReadyE.nil)
            go_simp
            refine (ints_any _ _ _ _ (by assumption) (by assumption)).mono ?_
            rintro e w' ⟨rfl, rfl⟩
            refine hK.out _ _ (hHeld) (fun hHeld => ?_)
            clear hK K
            (try simp only [Act.put, List.getElem_toArray, List.getElem_cons_succ, List.getElem_cons_zero, List.setIfInBounds_toArray, List.set_cons_zero, List.set_cons_succ])
            (refine wpAnyE_take (n := 12) (i := 11) (v := ?_) rfl (by kernel_rfl) (by kernel_rfl) (by kernel_rfl) (by kernel_rfl) (by kernel_rfl) (fun _ _ _ h => h) (Or.inl ⟨by rfl, ?_⟩) hHeld ?_; rotate_left; (focus (intro w hSw; (try dsimp only at hSw); go_simp; try (with_reducible rfl))); (try simp only [Act.put, List.getElem_toArray, List.getElem_cons_succ, List.getElem_cons_zero, List.setIfInBounds_toArray, List.set_cons_zero, List.set_cons_succ]))
            refine wpAnyE_ready (rs := [12]) (by kernel_rfl) (by simp) (AllReadyE.cons rfl (fun K hK => ?_) AllReadyE.nil)
            go_simp
            refine hK.out _ _ (HS5.out _ (blk_drew (blk_alloc HK5.out _)) (blk_drew (blk_alloc HX.out _))) (fun hHeld => ?_)
            clear hK K
            (try simp only [Act.put, List.getElem_toArray, List.getElem_cons_succ, List.getElem_cons_zero, List.setIfInBounds_toArray, List.set_cons_zero, List.set_cons_succ])
            refine wpAnyE_ready (rs := [13]) (by kernel_rfl) (by simp) (AllReadyE.cons rfl (fun K hK => ?_) AllReadyE.nil)
            refine step_appendR rowFn (by rfl) _ _ (by rfl) (g + 1) v0 ((L.take k).map cutV) (by rfl) (ownR_drew (ownR_alloc HO5.out _)) _ [⟨⟨pa, c10 pn, pc⟩, ⟨la, c10 ln, lc⟩, r, ⟨ca, 100, cc⟩⟩] (by rfl) HRN.out (by rw [List.length_singleton]; omega) (by rw [List.length_singleton]; unfold maxLen; omega) (by rw [World.size_drew, World.size_alloc]; omega) ?_
            intro v9 w9 own9 hg9
            obtain ⟨L9, hL9⟩ : ∃ L9, L9 = (L.take k).map cutV ++ [⟨⟨pa, c10 pn, pc⟩, ⟨la, c10 ln, lc⟩, r, ⟨ca, 100, cc⟩⟩] := ⟨_, rfl⟩
            rw [← hL9] at own9
            obtain ⟨g9, cap9, rfl, gg9, _⟩ := ownR_form own9 (by rw [hL9]; simp)
            have HL9 : Hid ((L.take (k + 1)).map cutV = L9) := by
              show _ = _
              rw [HSN.out, hL9]
              have e : cutV ⟨⟨pa, pn, pc⟩, ⟨la, ln, lc⟩, r, ⟨ca, cn, cc⟩⟩ = ⟨⟨pa, c10 pn, pc⟩, ⟨la, c10 ln, lc⟩, r, ⟨ca, 100, cc⟩⟩ := by unfold cutV; simp only [HQ.out]
              rw [e]
            have K9 := blk_grown (blk_drew (blk_alloc HK5.out _)) hg9 hne1
            have X9 := blk_grown (blk_drew (blk_alloc HX.out _)) hg9 hne2
            have B9 : Below W.heap.size W w9 := b_gr0 (b_drew (b_alloc (b_call HBW.out hb5) _)) hg9 (fun j hj => by have := (hown2 j hj).1; omega)
            clear hL9
            refine hK.out _ _ (HS5.out _ K9 X9) (fun hHeld => ?_)
            clear hK K
            (try simp only [Act.put, List.getElem_toArray, List.getElem_cons_succ, List.getElem_cons_zero, List.setIfInBounds_toArray, List.set_cons_zero, List.set_cons_succ])
            (refine wpAnyE_take (n := 12) (i := 14) (v := ?_) rfl (by kernel_rfl) (by kernel_rfl) (by kernel_rfl) (by kernel_rfl) (by kernel_rfl) (fun _ _ _ h => h) (Or.inl ⟨by rfl, ?_⟩) hHeld ?_; rotate_left; (focus (intro w hSw; (try dsimp only at hSw); go_simp; try (with_reducible rfl))); (try simp only [Act.put, List.getElem_toArray, List.getElem_cons_succ, List.getElem_cons_zero, List.setIfInBounds_toArray, List.set_cons_zero, List.set_cons_succ]))
            obtain ⟨z0, z1, z2, z3, zf⟩ := blk4 K9
            have ST : CutSt W (w9.setCell ⟨g, 3, none⟩ (.slice (some ⟨g9, 0, none⟩) L9.length cap9)) g u (.slice ga (c10 gn) gc) m ((L.take (k + 1)).map cutV) := by
              rw [HL9.out]
              exact ⟨_, ownR_kept own9 (gb_set (gb_refl w9 (some g)) 3 none _) (Or.inr (by intro e; have e2 : some g9 = some g := e; injection e2; omega)), blk_set K9 3 _, b_set B9 hgW _⟩
            have HSTT := Lib.hid ST
            clear ST own9 hg9 K9 X9 B9 z0 z1 z2 hHeld
            refine wpAnyE_ready (rs := [15]) (by kernel_rfl) (by simp) (AllReadyE.last rfl (fun K hK => ?_))
            go_simp
            refine hK.out _ _ (trivial) (fun hHeld => ?_)
            clear hK K
            (try simp only [Act.put, List.getElem_toArray, List.getElem_cons_succ, List.getElem_cons_zero, List.setIfInBounds_toArray, List.set_cons_zero, List.set_cons_succ])
            refine wpAnyE_done (by kernel_rfl) ?_
            go_wp2_with fail
            exact ⟨⟨k + 1, by omega, by omega, by go_num, HSTT⟩, by simp only [intOf]; omega⟩
          · have q1 : ¬ (100 : Int) < cn := by omega
            have HQ := Lib.hid hq; clear hq
            go_upto_region 9 with fail
            refine wp_named ?_
            intro W5 hW5
            have hb5 : Below wr.heap.size wr W5 := by rw [hW5]; exact HB5.out
            have X5 : Blk W5 wr.heap.size [.slice pa pn pc, .slice la ln lc, .int .i64 r, .slice ca cn cc] := by rw [hW5]; exact HX5.out
            have own5 := ownR_below HOWN.out hb5
            have blk5 := blk_below HBLK.out hb5
            have HX := Lib.hid X5; have HO5 := Lib.hid own5; have HK5 := Lib.hid blk5
            have HS5 : Hid (∀ w', Blk w' g [.bool u, .slice ga (c10 gn) gc, .int .i64 m, v0] → Blk w' wr.heap.size [.slice pa pn pc, .slice la ln lc, .int .i64 r, .slice ca cn cc] → w'.cell? ⟨g, 3, none⟩ = some v0 ∧ w'.cell? ⟨wr.heap.size, 0, none⟩ = some (.slice pa pn pc) ∧ w'.cell? ⟨wr.heap.size, 1, none⟩ = some (.slice la ln lc) ∧ w'.cell? ⟨wr.heap.size, 2, none⟩ = some (.int .i64 r)) := Lib.hid (fun w' h1 h2 => by
              obtain ⟨_, _, _, a3, _⟩ := blk4 h1
              obtain ⟨b0, b1, b2, _, _⟩ := blk4 h2
              exact ⟨a3, b0, b1, b2⟩)
            have hw5s := hb5.size
            have hgl5 := blk5.1
            have hfz5 := blk5.2.2
            have hx5l := X5.1
            have hne1 : some g ≠ v0.ownBlock := fun e => by have := (hown2 _ e.symm).1; omega
            have hne2 : some wr.heap.size ≠ v0.ownBlock := fun e => by have := (hown2 _ e.symm).2; omega
            clear hW5 X5 own5 blk5 d0 d1 d2 d3 y0 y1 y2 y3 yf
            have HRN : Hid (ReadR fnE (W5.alloc (.cells #[.slice pa (c10 pn) pc, .slice la (c10 ln) lc, .int .i64 r, .slice ca cn cc] 60)).drew (.slice (some ⟨W5.heap.size, 0, none⟩) 1 1) [⟨⟨pa, c10 pn, pc⟩, ⟨la, c10 ln, lc⟩, r, ⟨ca, cn, cc⟩⟩]) := readR_new (c := fnE) W5 _ ⟨⟨pa, c10 pn, pc⟩, ⟨la, c10 ln, lc⟩, r, ⟨ca, cn, cc⟩⟩
            have hLk : ((L.take k).map cutV).length ≤ 17 := by simp; omega
            have S5 := HS5.out _ (blk_drew HK5.out) (blk_drew HX.out)
            refine wp_region_E (S := (fun w' => w'.cell? ⟨g, 3, none⟩ = some v0 ∧ w'.cell? ⟨wr.heap.size, 0, none⟩ = some (.slice pa pn pc) ∧ w'.cell? ⟨wr.heap.size, 1, none⟩ = some (.slice la ln lc) ∧ w'.cell? ⟨wr.heap.size, 2, none⟩ = some (.int .i64 r))) 15 (by kernel_rfl) S5 (fun hHeld => ?_)
            clear S5
            (refine wpAnyE_take (n := 12) (i := 0) (v := ?_) rfl (by kernel_rfl) (by kernel_rfl) (by kernel_rfl) (by kernel_rfl) (by kernel_rfl) (fun _ _ _ h => h) (Or.inl ⟨by rfl, ?_⟩) hHeld ?_; rotate_left; (focus (intro w hSw; (try dsimp only at hSw); go_simp; try (with_reducible rfl))); (try simp only [Act.put, List.getElem_toArray, List.getElem_cons_succ, List.getElem_cons_zero, List.setIfInBounds_toArray, List.set_cons_zero, List.set_cons_succ]))
            (refine wpAnyE_take (n := 12) (i := 1) (v := ?_) rfl (by kernel_rfl) (by kernel_rfl) (by kernel_rfl) (by kernel_rfl) (by kernel_rfl) (fun _ _ _ h => h) (Or.inl ⟨by rfl, ?_⟩) hHeld ?_; rotate_left; (focus (intro w hSw; (try dsimp only at hSw); go_simp; try (with_reducible rfl))); (try simp only [Act.put, List.getElem_toArray, List.getElem_cons_succ, List.getElem_cons_zero, List.setIfInBounds_toArray, List.set_cons_zero, List.set_cons_succ]))
            (refine wpAnyE_take (n := 12) (i := 2) (v := ?_) rfl (by kernel_rfl) (by kernel_rfl) (by kernel_rfl) (by kernel_rfl) (by kernel_rfl) (fun _ _ _ h => h) (Or.inl ⟨by rfl, ?_⟩) hHeld ?_; rotate_left; (focus (intro w hSw; (try dsimp only at hSw); go_simp; try (with_reducible rfl))); (try simp only [Act.put, List.getElem_toArray, List.getElem_cons_succ, List.getElem_cons_zero, List.setIfInBounds_toArray, List.set_cons_zero, List.set_cons_succ]))
            (refine wpAnyE_take (n := 12) (i := 3) (v := ?_) rfl (by kernel_rfl) (by kernel_rfl) (by kernel_rfl) (by kernel_rfl) (by kernel_rfl) (fun _ _ _ h => h) (Or.inl ⟨by rfl, ?_⟩) hHeld ?_; rotate_left; (focus (intro w hSw; (try dsimp only at hSw); go_simp; try (with_reducible rfl))); (try simp only [Act.put, List.getElem_toArray, List.getElem_cons_succ, List.getElem_cons_zero, List.setIfInBounds_toArray, List.set_cons_zero, List.set_cons_succ]))
            (refine wpAnyE_take (n := 12) (i := 5) (v := ?_) rfl (by kernel_rfl) (by kernel_rfl) (by kernel_rfl) (by kernel_rfl) (by kernel_rfl) (fun _ _ _ h => h) (Or.inl ⟨by rfl, ?_⟩) hHeld ?_; rotate_left; (focus (intro w hSw; (try dsimp only at hSw); go_simp; try (with_reducible rfl))); (try simp only [Act.put, List.getElem_toArray, List.getElem_cons_succ, List.getElem_cons_zero, List.setIfInBounds_toArray, List.set_cons_zero, List.set_cons_succ]))
            (refine wpAnyE_take (n := 12) (i := 6) (v := ?_) rfl (by kernel_rfl) (by kernel_rfl) (by kernel_rfl) (by kernel_rfl) (by kernel_rfl) (fun _ _ _ h => h) (Or.inl ⟨by rfl, ?_⟩) hHeld ?_; rotate_left; (focus (intro w hSw; (try dsimp only at hSw); go_simp; try (with_reducible rfl))); (try simp only [Act.put, List.getElem_toArray, List.getElem_cons_succ, List.getElem_cons_zero, List.setIfInBounds_toArray, List.set_cons_zero, List.set_cons_succ]))
            (refine wpAnyE_take (n := 12) (i := 8) (v := ?_) rfl (by kernel_rfl) (by kernel_rfl) (by kernel_rfl) (by kernel_rfl) (by kernel_rfl) (fun _ _ _ h => h) (Or.inl ⟨by rfl, ?_⟩) hHeld ?_; rotate_left; (focus (intro w hSw; (try dsimp only at hSw); go_simp; try (with_reducible rfl))); (try simp only [Act.put, List.getElem_toArray, List.getElem_cons_succ, List.getElem_cons_zero, List.setIfInBounds_toArray, List.set_cons_zero, List.set_cons_succ]))
            (refine wpAnyE_take (n := 12) (i := 9) (v := ?_) rfl (by kernel_rfl) (by kernel_rfl) (by kernel_rfl) (by kernel_rfl) (by kernel_rfl) (fun _ _ _ h => h) (Or.inl ⟨by rfl, ?_⟩) hHeld ?_; rotate_left; (focus (intro w hSw; (try dsimp only at hSw); go_simp; try (with_reducible rfl))); (try simp only [Act.put, List.getElem_toArray, List.getElem_cons_succ, List.getElem_cons_zero, List.setIfInBounds_toArray, List.set_cons_zero, List.set_cons_succ]))
            (refine wpAnyE_take (n := 12) (i := 10) (v := ?_) rfl (by kernel_rfl) (by kernel_rfl) (by kernel_rfl) (by kernel_rfl) (by kernel_rfl) (fun _ _ _ h => h) (Or.inl ⟨by rfl, ?_⟩) hHeld ?_; rotate_left; (focus (intro w hSw; (try dsimp only at hSw); go_simp; try (with_reducible rfl))); (try simp only [Act.put, List.getElem_toArray, List.getElem_cons_succ, List.getElem_cons_zero, List.setIfInBounds_toArray, List.set_cons_zero, List.set_cons_succ]))
            refine wpAnyE_ready (rs := [4]) (by kernel_rfl) (by simp) (AllReadyE.cons rfl (fun K hK => ?_) AllReadyE.nil)
            go_simp
            refine (ints_any _ _ _ _ (by assumption) (by assumption)).mono ?_
            rintro e w' ⟨rfl, rfl⟩
            refine hK.out _ _ (hHeld) (fun hHeld => ?_)
            clear hK K
            (try simp only [Act.put, List.getElem_toArray, List.getElem_cons_succ, List.getElem_cons_zero, List.setIfInBounds_toArray, List.set_cons_zero, List.set_cons_succ])
            refine wpAnyE_ready (rs := [7]) (by kernel_rfl) (by simp) (AllReadyE.cons rfl (fun K hK => ?_) AllReadyE.nil)
            go_simp
            refine (ints_any _ _ _ _ (by assumption) (by assumption)).mono ?_
            rintro e w' ⟨rfl, rfl⟩
            refine hK.out _ _ (hHeld) (fun hHeld => ?_)
            clear hK K
            (try simp only [Act.put, List.getElem_toArray, List.getElem_cons_succ, List.getElem_cons_zero, List.setIfInBounds_toArray, List.set_cons_zero, List.set_cons_succ])
            (refine wpAnyE_take (n := 12) (i := 11) (v := ?_) rfl (by kernel_rfl) (by kernel_rfl) (by kernel_rfl) (by kernel_rfl) (by kernel_rfl) (fun _ _ _ h => h) (Or.inl ⟨by rfl, ?_⟩) hHeld ?_; rotate_left; (focus (intro w hSw; (try dsimp only at hSw); go_simp; try (with_reducible rfl))); (try simp only [Act.put, List.getElem_toArray, List.getElem_cons_succ, List.getElem_cons_zero, List.setIfInBounds_toArray, List.set_cons_zero, List.set_cons_succ]))
            refine wpAnyE_ready (rs := [12]) (by kernel_rfl) (by simp) (AllReadyE.cons rfl (fun K hK => ?_) AllReadyE.nil)
            go_simp
            refine hK.out _ _ (HS5.out _ (blk_drew (blk_alloc HK5.out _)) (blk_drew (blk_alloc HX.out _))) (fun hHeld => ?_)
            clear hK K
            (try simp only [Act.put, List.getElem_toArray, List.getElem_cons_succ, List.getElem_cons_zero, List.setIfInBounds_toArray, List.set_cons_zero, List.set_cons_succ])
            refine wpAnyE_ready (rs := [13]) (by kernel_rfl) (by simp) (AllReadyE.cons rfl (fun K hK => ?_) AllReadyE.nil)
            refine step_appendR rowFn (by rfl) _ _ (by rfl) (g + 1) v0 ((L.take k).map cutV) (by rfl) (ownR_drew (ownR_alloc HO5.out _)) _ [⟨⟨pa, c10 pn, pc⟩, ⟨la, c10 ln, lc⟩, r, ⟨ca, cn, cc⟩⟩] (by rfl) HRN.out (by rw [List.length_singleton]; omega) (by rw [List.length_singleton]; unfold maxLen; omega) (by rw [World.size_drew, World.size_alloc]; omega) ?_
            intro v9 w9 own9 hg9
            obtain ⟨L9, hL9⟩ : ∃ L9, L9 = (L.take k).map cutV ++ [⟨⟨pa, c10 pn, pc⟩, ⟨la, c10 ln, lc⟩, r, ⟨ca, cn, cc⟩⟩] := ⟨_, rfl⟩
            rw [← hL9] at own9
            obtain ⟨g9, cap9, rfl, gg9, _⟩ := ownR_form own9 (by rw [hL9]; simp)
            have HL9 : Hid ((L.take (k + 1)).map cutV = L9) := by
              show _ = _
              rw [HSN.out, hL9]
              have e : cutV ⟨⟨pa, pn, pc⟩, ⟨la, ln, lc⟩, r, ⟨ca, cn, cc⟩⟩ = ⟨⟨pa, c10 pn, pc⟩, ⟨la, c10 ln, lc⟩, r, ⟨ca, cn, cc⟩⟩ := by unfold cutV; simp only [HQ.out]
              rw [e]
            have K9 := blk_grown (blk_drew (blk_alloc HK5.out _)) hg9 hne1
            have X9 := blk_grown (blk_drew (blk_alloc HX.out _)) hg9 hne2
            have B9 : Below W.heap.size W w9 := b_gr0 (b_drew (b_alloc (b_call HBW.out hb5) _)) hg9 (fun j hj => by have := (hown2 j hj).1; omega)
            clear hL9
            refine hK.out _ _ (HS5.out _ K9 X9) (fun hHeld => ?_)
            clear hK K
            (try simp only [Act.put, List.getElem_toArray, List.getElem_cons_succ, List.getElem_cons_zero, List.setIfInBounds_toArray, List.set_cons_zero, List.set_cons_succ])
            (refine wpAnyE_take (n := 12) (i := 14) (v := ?_) rfl (by kernel_rfl) (by kernel_rfl) (by kernel_rfl) (by kernel_rfl) (by kernel_rfl) (fun _ _ _ h => h) (Or.inl ⟨by rfl, ?_⟩) hHeld ?_; rotate_left; (focus (intro w hSw; (try dsimp only at hSw); go_simp; try (with_reducible rfl))); (try simp only [Act.put, List.getElem_toArray, List.getElem_cons_succ, List.getElem_cons_zero, List.setIfInBounds_toArray, List.set_cons_zero, List.set_cons_succ]))
            obtain ⟨z0, z1, z2, z3, zf⟩ := blk4 K9
            have ST : CutSt W (w9.setCell ⟨g, 3, none⟩ (.slice (some ⟨g9, 0, none⟩) L9.length cap9)) g u (.slice ga (c10 gn) gc) m ((L.take (k + 1)).map cutV) := by
              rw [HL9.out]
              exact ⟨_, ownR_kept own9 (gb_set (gb_refl w9 (some g)) 3 none _) (Or.inr (by intro e; have e2 : some g9 = some g := e; injection e2; omega)), blk_set K9 3 _, b_set B9 hgW _⟩
            have HSTT := Lib.hid ST
            clear ST own9 hg9 K9 X9 B9 z0 z1 z2 hHeld
            refine wpAnyE_ready (rs := [15]) (by kernel_rfl) (by simp) (AllReadyE.last rfl (fun K hK => ?_))
            go_simp
            refine hK.out _ _ (trivial) (fun hHeld => ?_)
            clear hK K
            (try simp only [Act.put, List.getElem_toArray, List.getElem_cons_succ, List.getElem_cons_zero, List.setIfInBounds_toArray, List.set_cons_zero, List.set_cons_succ])
            refine wpAnyE_done (by kernel_rfl) ?_
            go_wp2_with fail
            exact ⟨⟨k + 1, by omega, by omega, by go_num, HSTT⟩, by simp only [intOf]; omega⟩
        · obtain rfl : k = 17 := by omega
          have B5 := b_alloc HBW.out (.cells #[.slice pa pn pc, .slice la ln lc, .int .i64 r, .slice ca cn cc] 60)
          have R5 := blk4 (blk_below HBR.out B5)
          have R5l := (blk_below HBR.out B5).1
          have RB := Lib.hid (blk_below HBR.out B5)
          have BWW := Lib.hid (b_call hBW B5)
          have K5 := blk_alloc HBLK.out (.cells #[.slice pa pn pc, .slice la ln lc, .int .i64 r, .slice ca cn cc] 60)
          have OWNZ := ownR_alloc HOWN.out (.cells #[.slice pa pn pc, .slice la ln lc, .int .i64 r, .slice ca cn cc] 60)
          obtain ⟨va, vc, ev, _⟩ := readR_len (ownR_read OWNZ)
          obtain ⟨n0, hn0⟩ : ∃ n0, n0 = ((L.take 17).map cutV).length := ⟨_, rfl⟩
          rw [← hn0] at ev
          subst ev
          clear hn0
          obtain ⟨e0, e1, e2, e3, ef⟩ := R5
          obtain ⟨f0, f1, f2, f3, ff⟩ := blk4 K5
          have HOZ := Lib.hid OWNZ
          have hOl := ownR_lt OWNZ
          have hblt := R5l
          clear OWNZ
          go_wp2_with fail
          refine post_named ?_
          intro wF hwF
          have BF : Blk wF (w.heap.size + 1) [.bool u, .slice ga (c10 gn) gc, .int .i64 m, .slice va n0 vc] := by rw [hwF]; exact blk_set (blk_set (blk_set (blk_set RB.out 0 _) 1 _) 2 _) 3 _
          have GF := gb_set (gb_set (gb_set (gb_set (gb_refl (wr.alloc (.cells #[.slice pa pn pc, .slice la ln lc, .int .i64 r, .slice ca cn cc] 60)) (some (w.heap.size + 1))) 0 none (.bool u)) 1 none (.slice ga (c10 gn) gc)) 2 none (.int .i64 m)) 3 none (.slice va n0 vc)
          rw [← hwF] at GF
          have FB : Below w.heap.size w wF := b_grown BWW.out GF (by omega)
          have OF := ownR_kept HOZ.out GF (by
            cases hv : (Value.slice va n0 vc).ownBlock with
            | none => exact Or.inl rfl
            | some j => exact Or.inr (by intro e; injection e with e; have := (hOl j hv).1; omega))
          clear hwF GF
          obtain ⟨c0, c1, c2, c3, _⟩ := blk4 BF
          exact bodyPost_ret (v := aggP ⟨u, ⟨ga, c10 gn, gc⟩, m, ⟨va, n0, vc⟩⟩) (by simp [results, Tryd.results21, go_sem, c0, c1, c2, c3]; rfl) rfl ⟨_, rfl, cutM_end HU.out HG0.out HM.out HA0.out (Or.inl rfl) (ownR_mono OF (by omega)), FB⟩
      · obtain rfl : k = L.length := by omega
        have R5 := blk4 (blk_below HBR.out hbw)
        have R5l := (blk_below HBR.out hbw).1
        have RB := Lib.hid (blk_below HBR.out hbw)
        have BWW := Lib.hid (b_call hBW hbw)
        have K5 := hblk
        have OWNZ := hown
        have HBW := Lib.hid hbw
        clear hbw hp
        obtain ⟨va, vc, ev, _⟩ := readR_len (ownR_read OWNZ)
        obtain ⟨n0, hn0⟩ : ∃ n0, n0 = ((L.take L.length).map cutV).length := ⟨_, rfl⟩
        rw [← hn0] at ev
        subst ev
        clear hn0
        obtain ⟨e0, e1, e2, e3, ef⟩ := R5
        obtain ⟨f0, f1, f2, f3, ff⟩ := blk4 K5
        have HOZ := Lib.hid OWNZ
        have hOl := ownR_lt OWNZ
        have hblt := R5l
        clear OWNZ
        go_wp2_with fail
        refine post_named ?_
        intro wF hwF
        have BF : Blk wF (w.heap.size + 1) [.bool u, .slice ga (c10 gn) gc, .int .i64 m, .slice va n0 vc] := by rw [hwF]; exact blk_set (blk_set (blk_set (blk_set RB.out 0 _) 1 _) 2 _) 3 _
        have GF := gb_set (gb_set (gb_set (gb_set (gb_refl wr (some (w.heap.size + 1))) 0 none (.bool u)) 1 none (.slice ga (c10 gn) gc)) 2 none (.int .i64 m)) 3 none (.slice va n0 vc)
        rw [← hwF] at GF
        have FB : Below w.heap.size w wF := b_grown BWW.out GF (by omega)
        have OF := ownR_kept HOZ.out GF (by
          cases hv : (Value.slice va n0 vc).ownBlock with
          | none => exact Or.inl rfl
          | some j => exact Or.inr (by intro e; injection e with e; have := (hOl j hv).1; omega))
        clear hwF GF
        obtain ⟨c0, c1, c2, c3, _⟩ := blk4 BF
        exact bodyPost_ret (v := aggP ⟨u, ⟨ga, c10 gn, gc⟩, m, ⟨va, n0, vc⟩⟩) (by simp [results, Tryd.results21, go_sem, c0, c1, c2, c3]; rfl) rfl ⟨_, rfl, cutM_end HU.out HG0.out HM.out HA0.out (Or.inr ⟨rfl, hk17⟩) (ownR_mono OF (by omega)), FB⟩
end
end Go.Proofs.YtedmjlhgpdeafaaDoor
