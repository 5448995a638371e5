/- Layer 3: (*Arena).Do, whatever function it is handed that captures at most two values. Printed by mkaredo.py. Conditions: the arena stands; what the function does is told by a contract. -/
import Derived.Test.YtgbbnmjfkhconaaAreE
namespace Go.Proofs.Ytgbbnmjfkhconaa
open Go.RowKit
set_option linter.unusedVariables false
set_option linter.unusedSimpArgs false
attribute [local go_sem] over_cell over_frozen
theorem leaves_two {P : Program} {fn : Func} {R : Ending → World → Prop} {a : Act} {w : World} {v : Value} (hd : a.defers = []) (h : (results fn a.tmps).run P w = .ok v w) (hR : R (.returned v) w) : bodyPostD P fn R .ret a w := by
  show Leaves P fn a.tmps R a.defers .returning w
  rw [hd]; exact ⟨v, h, hR⟩
theorem post_nm {P : Program} {fn : Func} {R : Ending → World → Prop} {e : Exit} {a : Act} {w : World} (h : ∀ w1, w1 = w → bodyPostD P fn R e a w1) : bodyPostD P fn R e a w := h _ rfl
theorem wp_nm {P : Program} {c : Code} {Q : Exit → Act → World → Prop} {a : Act} {w : World} (h : ∀ w1, w1 = w → Code.wp P c Q a w1) : Code.wp P c Q a w := h _ rfl
set_option maxRecDepth 100000 in
theorem ado_nil (f : Value) (w : World) (hf : ∃ F s c, f = .func F s c) : Calls Try.prog 36 #[.pointer none, f] w fun e w' => e = .returned (.tuple #[.int .i64 0, .int .i64 2]) ∧ Below w.heap.size w w' := by
  obtain ⟨F, s, c, rfl⟩ := hf
  go_enter_defers Try.func36, Try.ntmps36
  go_wp2_with fail
  exact leaves_two rfl (by simp [results, Try.results36, go_sem]) ⟨rfl, by (repeat' (first | exact Below.refl _ _ | assumption | refine b_alloc ?_ _ | refine b_over ?_ _ | refine b_drew ?_ | refine b_call ?_ (by assumption)))⟩
set_option maxRecDepth 100000 in
theorem ado_none {w : World} {b : Nat} : Calls Try.prog 36 #[tp b, Value.nilFunc] w fun e w' => e = .returned (.tuple #[.int .i64 0, .int .i64 1]) ∧ Below w.heap.size w w' := by
  unfold tp
  have hq : ∀ w, (binOp .eql 67 .nilFunc .nilFunc).run Try.prog w = .ok (.bool true) w := fun w => by kernel_rfl
  go_enter_defers Try.func36, Try.ntmps36
  go_wp2_with fail
  exact leaves_two rfl (by simp [results, Try.results36, go_sem]) ⟨rfl, by (repeat' (first | exact Below.refl _ _ | assumption | refine b_alloc ?_ _ | refine b_over ?_ _ | refine b_drew ?_ | refine b_call ?_ (by assumption)))⟩
/-- The blocks that a Do lays. -/
structure DoSt (w w1 : World) (b : Nat) : Prop where
  bw : Below w.heap.size w w1
  sz : w1.heap.size = w.heap.size + 5
  n : Blk w1 w.heap.size [.int .i64 0]
  e : Blk w1 (w.heap.size + 1) [.int .i64 0]
  v : ViewAt w1 (w.heap.size + 2) (tp b) 0 (.slice none 0 0) (.slice none 0 0) w.heap.size [] []
  vr : Blk w1 (w.heap.size + 3) [tp (w.heap.size + 2)]
  wh : Blk w1 (w.heap.size + 4) [.bool false]
set_option maxRecDepth 100000 in
set_option maxHeartbeats 2000000 in
theorem ado0 {w : World} {b g cap : Nat} {L : List Int} (H : AreAt w b g cap L) (F : Nat) (Y : Nat → Prop) (hcall : ∀ (args : Array Value) (w : World), (callFunc F args).run Try.prog w = .ok (.enter F args) w) (hY : ∀ j, Y j → j < w.heap.size ∧ j ≠ b ∧ j ≠ g) (Z : Nat → Int → List Int → World → Prop)
    (hF : ∀ w1, DoSt w w1 b → AreAt w1 b g cap L → Calls Try.prog F #[tp (w.heap.size + 2)] w1 (FDone L b g cap Y w.heap.size w1 Z)) :
    Calls Try.prog 36 #[tp b, .func (.func F) #[] #[]] w (DoDone w L b g cap Y Z) := by
  have hmf : ∀ (fn : Fn) (first cap : Array Value) (w : World), (Instr.makeFunc fn first cap).run Try.prog w = .ok (.func fn first cap) w := fun _ _ _ _ => rfl
  have hq : ∀ w, (binOp .eql 67 (.func (.func F) #[] #[]) .nilFunc).run Try.prog w = .ok (.bool false) w := fun w => by kernel_rfl
  have hlb := H.hd.1
  have hlg := H.rw.1
  have HH := Lib.hid H
  have HF := Lib.hid hF
  have HY := Lib.hid hY
  clear H hF hY
  unfold tp
  go_enter_defers Try.func36, Try.ntmps36
  go_upto_region 9 with fail
  refine wp_nm ?_
  intro w1 hw1
  have D : DoSt w w1 b := by
    have B0 := Below.refl w.heap.size w
    refine ⟨?_, by rw [hw1]; simp, ?_, ?_, ⟨?_, ?_, ownR_nil _ _, ownR_nil _ _⟩, ?_, ?_⟩
    all_goals rw [hw1]
    · exact b_alloc (b_alloc (b_alloc (b_alloc (b_alloc B0 _) _) _) _) _
    · exact blk_alloc (blk_alloc (blk_alloc (blk_alloc (blk_new w #[.int .i64 0] _) _) _) _) _
    · exact blk_alloc (blk_alloc (blk_alloc (blk_at _ #[.int .i64 0] _ (w.heap.size + 1) (by simp)) _) _) _
    · exact blk_alloc (blk_alloc (blk_at _ #[.pointer (some ⟨b, 0, none⟩), .int .i64 0, .slice none 0 0, .slice none 0 0] _ (w.heap.size + 2) (by simp)) _) _
    · exact tyB_alloc (tyB_alloc (tyB_new2 (by simp)) _) _
    · exact blk_alloc (blk_at _ #[.pointer (some ⟨w.heap.size + 1 + 1, 0, none⟩)] _ (w.heap.size + 3) (by simp)) _
    · exact blk_at _ #[.bool false] _ (w.heap.size + 4) (by simp)
  have hlt1 := D.wh.1
  have HD := Lib.hid D
  have H1 := Lib.hid (are_below HH.out D.bw)
  obtain ⟨a0, af⟩ := blk1 D.vr
  have a0 : w1.cell? ⟨w.heap.size + 3, 0, none⟩ = some (.pointer (some ⟨w.heap.size + 2, 0, none⟩)) := a0
  clear hw1 D
  go_wp2_with fail
  refine (HF.out w1 HD.out H1.out).mono ?_
  rintro e w2 ⟨n, x, M, O, W, ov, wv, hor, hn, V2, A2, hlog, hO, G2, hZ⟩
  have dY : ∀ j, w.heap.size ≤ j → j ≠ w.heap.size + 2 → ¬ (j = w.heap.size + 2 ∨ j = g ∨ Y j) := fun j h1 h2 => by
    rintro (q | q | q)
    · exact h2 q
    · omega
    · have := (HY.out j q).1; omega
  have N2 := blk_gx HD.out.n G2 (dY _ (by omega) (by omega))
  have E2 := blk_gx HD.out.e G2 (dY _ (by omega) (by omega))
  have R2 := blk_gx HD.out.vr G2 (dY _ (by omega) (by omega))
  have W2 := blk_gx HD.out.wh G2 (dY _ (by omega) (by omega))
  have hs2 : w.heap.size + 5 ≤ w2.heap.size := by have := G2.size; rw [HD.out.sz] at this; exact this
  have HZ := Lib.hid hZ
  have HG2 := Lib.hid G2
  have HV2 := Lib.hid V2
  have HA2 := Lib.hid A2
  have HLG := Lib.hid hlog
  have HO2 := Lib.hid hO
  have HN2 := Lib.hid N2
  have HE2 := Lib.hid E2
  have HR2 := Lib.hid R2
  have HW2 := Lib.hid W2
  have HD2 := Lib.hid dY
  have HNN := Lib.hid hn
  clear hZ G2 V2 A2 hlog hO N2 E2 R2 W2 dY a0 af hn
  rcases hor with ⟨rfl, rfl⟩ | ⟨hx, rfl⟩
  · obtain ⟨a0, af⟩ := blk1 HN2.out
    obtain ⟨b0, bf⟩ := blk1 HE2.out
    obtain ⟨c0, cf⟩ := blk1 HR2.out
    obtain ⟨d0, df⟩ := blk1 HW2.out
    obtain ⟨v0, v1, v2, v3, vf⟩ := blk4 HV2.out.bk
    unfold tp at c0 v0
    go_wp2_with fail
    refine post_nm ?_
    intro w3 hw3
    have N3 : Blk w3 w.heap.size [.int .i64 n] := by
      rw [hw3]
      exact blk_other (blk_set (blk_other HN2.out (p := ⟨w.heap.size + 4, 0, none⟩) (by simp only; omega) _) 0 _) (by simp only; omega) _
    have E3 : Blk w3 (w.heap.size + 1) [.int .i64 0] := by
      rw [hw3]
      exact blk_set (blk_other (blk_other HE2.out (p := ⟨w.heap.size + 4, 0, none⟩) (by simp only; omega) _) (by simp only; omega) _) 0 _
    have R3 : Blk w3 (w.heap.size + 3) [tp (w.heap.size + 2)] := by
      rw [hw3]
      exact blk_other (blk_other (blk_other HR2.out (p := ⟨w.heap.size + 4, 0, none⟩) (by simp only; omega) _) (by simp only; omega) _) (by simp only; omega) _
    have W3 : Blk w3 (w.heap.size + 4) [.bool true] := by
      rw [hw3]
      exact blk_other (blk_other (blk_set HW2.out 0 _) (by simp only; omega) _) (by simp only; omega) _
    have G3 : GrowX w2 w3 (fun j => w.heap.size ≤ j ∧ j < w.heap.size + 5) := by
      rw [hw3]
      exact gx_set (gx_set (gx_set (gx_refl _ _) (Or.inr (by simp only; omega)) _) (Or.inr (by simp only; omega)) _) (Or.inr (by simp only; omega)) _
    have V3 : Blk w3 (w.heap.size + 2) [tp b, .int .i64 n, ov, wv] := by
      rw [hw3]
      exact blk_other (blk_other (blk_other HV2.out.bk (p := ⟨w.heap.size + 4, 0, none⟩) (by simp only; omega) _) (by simp only; omega) _) (by simp only; omega) _
    clear hw3 a0 af b0 bf c0 cf d0 df v0 v1 v2 v3 vf
    refine leaves_cons (f := 76) (args := #[tp (w.heap.size + 2), tp (w.heap.size + 4), .pointer (some ⟨w.heap.size + 1, 0, none⟩)]) (by simp) (by simp [go_sem, tp]) ?_
    refine (vend_idle _ V3 W3 (by omega)).mono ?_
    rintro e u' w4 ⟨rfl, rfl, hw4⟩
    have G4 : GrowX w3 w4 (fun j => w.heap.size ≤ j ∧ j < w.heap.size + 5) := by rw [hw4]; exact gx_set (gx_refl _ _) (Or.inr (by simp only; omega)) _
    have V4 : Blk w4 (w.heap.size + 2) [.pointer none, .int .i64 n, ov, wv] := by rw [hw4]; exact blk_set V3 0 _
    have N4 : Blk w4 w.heap.size [.int .i64 n] := by rw [hw4]; exact blk_other N3 (by simp only; omega) _
    have E4 : Blk w4 (w.heap.size + 1) [.int .i64 0] := by rw [hw4]; exact blk_other E3 (by simp only; omega) _
    have R4 : Blk w4 (w.heap.size + 3) [tp (w.heap.size + 2)] := by rw [hw4]; exact blk_other R3 (by simp only; omega) _
    clear hw4 N3 E3 R3 W3 V3
    show Leaves _ _ _ _ _ .returning w4
    refine leaves_cons (f := 75) (args := #[tp (w.heap.size + 3), tp w.heap.size]) (by simp) (by simp [go_sem, tp]) ?_
    refine (do1_any .returning R4 V4 N4).mono ?_
    rintro e u' w5 ⟨rfl, rfl, hw5⟩
    have G5 : GrowX w4 w5 (fun j => w.heap.size ≤ j ∧ j < w.heap.size + 5) := by rw [hw5]; exact gx_set (gx_refl _ _) (Or.inr (by simp only; omega)) _
    have V5 : Blk w5 (w.heap.size + 2) [.pointer none, .int .i64 n, ov, wv] := by rw [hw5]; exact blk_other V4 (by simp only; omega) _
    have N5 : Blk w5 w.heap.size [.int .i64 n] := by rw [hw5]; exact blk_set N4 0 _
    have E5 : Blk w5 (w.heap.size + 1) [.int .i64 0] := by rw [hw5]; exact blk_other E4 (by simp only; omega) _
    clear hw5 N4 E4 R4 V4
    have GA := gx_trans (Z := fun j => w.heap.size ≤ j ∧ j < w.heap.size + 5) (gx_trans (Z := fun j => w.heap.size ≤ j ∧ j < w.heap.size + 5) G3 G4 (fun j _ e => e) (fun j _ e => e)) G5 (fun j _ e => e) (fun j _ e => e)
    have GB := gx_trans (Z := fun j => j = w.heap.size + 2 ∨ j = g ∨ Y j ∨ (w.heap.size ≤ j ∧ j < w.heap.size + 5)) HG2.out GA (fun j _ e => by rcases e with e | e | e; (exact Or.inl e); (exact Or.inr (Or.inl e)); (exact Or.inr (Or.inr (Or.inl e)))) (fun j _ e => Or.inr (Or.inr (Or.inr e)))
    have GC : GrowX w w5 (fun j => j = g ∨ Y j) := gx_mono (gx_pre HD.out.bw GB) (fun j hj e => by rcases e with e | e | e | e; (omega); (exact Or.inl e); (exact Or.inr e); (omega))
    have GD := gx_mono (Y := fun j => j = g ∨ (w.heap.size ≤ j ∧ j < w.heap.size + 5)) GA (fun j hj e => Or.inr e)
    have A5 := are_gx HA2.out GA (by omega) (by omega)
    obtain ⟨p0, pf⟩ := blk1 N5
    obtain ⟨q0, qf⟩ := blk1 E5
    have hfin : DoDone w L b g cap Y Z (.returned (.tuple #[.int .i64 n, .int .i64 0])) w5 := ⟨n, 0, M, w2, rfl, by rw [if_pos rfl]; exact A5, GC, GD, hs2, ⟨_, _, _, V5⟩, HZ.out⟩
    clear GA GB GC GD A5 V5 N5 E5 G3 G4 G5 pf qf
    simp [Leaves, settle, results, Try.results36, go_sem, p0, q0]
    exact hfin
  · go_wp2_with fail
    refine leaves_cons (f := 76) (args := #[tp (w.heap.size + 2), tp (w.heap.size + 4), tp (w.heap.size + 1)]) (by simp) (by simp [go_sem, tp]) ?_
    refine (vend_fell HA2.out HV2.out HLG.out (by have := HO2.out; omega) hlg hlb (by omega) (by omega) (by omega) HW2.out HE2.out (by omega) (by omega) (by omega)).mono ?_
    rintro e u' w4 ⟨rfl, rfl, E4, V4, A4, G4⟩
    have N4 := blk_gx HN2.out G4 (by omega)
    have R4 := blk_gx HR2.out G4 (by omega)
    show Leaves _ _ _ _ _ .returning w4
    refine leaves_cons (f := 75) (args := #[tp (w.heap.size + 3), tp w.heap.size]) (by simp) (by simp [go_sem, tp]) ?_
    refine (do1_any .returning R4 V4 N4).mono ?_
    rintro e u' w5 ⟨rfl, rfl, hw5⟩
    have G5 : GrowX w4 w5 (fun j => j = w.heap.size) := by rw [hw5]; exact gx_set (X := fun j => j = w.heap.size) (gx_refl _ _) (Or.inr rfl) _
    have V5 : Blk w5 (w.heap.size + 2) [.pointer none, .int .i64 n, ov, wv] := by rw [hw5]; exact blk_other V4 (by simp only; omega) _
    have N5 : Blk w5 w.heap.size [.int .i64 n] := by rw [hw5]; exact blk_set N4 0 _
    have E5 : Blk w5 (w.heap.size + 1) [.int .i64 x] := by rw [hw5]; exact blk_other E4 (by simp only; omega) _
    have A5 := are_gx A4 G5 (by omega) (by omega)
    clear hw5 N4 E4 R4 V4
    have GA := gx_trans (Z := fun j => j = g ∨ (w.heap.size ≤ j ∧ j < w.heap.size + 5)) G4 G5 (fun j _ e => by rcases e with e | e | e; (exact Or.inl e); (right; omega); (right; omega)) (fun j _ e => by right; omega)
    have GB := gx_trans (Z := fun j => j = w.heap.size + 2 ∨ j = g ∨ Y j ∨ (w.heap.size ≤ j ∧ j < w.heap.size + 5)) HG2.out GA (fun j _ e => by rcases e with e | e | e; (exact Or.inl e); (exact Or.inr (Or.inl e)); (exact Or.inr (Or.inr (Or.inl e)))) (fun j _ e => by rcases e with e | e; (exact Or.inr (Or.inl e)); (exact Or.inr (Or.inr (Or.inr e))))
    have GC : GrowX w w5 (fun j => j = g ∨ Y j) := gx_mono (gx_pre HD.out.bw GB) (fun j hj e => by rcases e with e | e | e | e; (omega); (exact Or.inl e); (exact Or.inr e); (omega))
    obtain ⟨p0, pf⟩ := blk1 N5
    obtain ⟨q0, qf⟩ := blk1 E5
    have hfin : DoDone w L b g cap Y Z (.returned (.tuple #[.int .i64 n, .int .i64 x])) w5 := ⟨n, x, M, w2, rfl, by rw [if_neg hx]; exact A5, GC, GA, hs2, ⟨_, _, _, V5⟩, HZ.out⟩
    clear GA GB GC A5 A4 V5 N5 E5 G4 G5 pf qf
    simp [Leaves, settle, results, Try.results36, go_sem, p0, q0]
    exact hfin
set_option maxRecDepth 100000 in
set_option maxHeartbeats 2000000 in
theorem ado1 {w : World} {b g cap : Nat} {L : List Int} (H : AreAt w b g cap L) (F : Nat) (c0 : Value) (Y : Nat → Prop) (hcall : ∀ (args : Array Value) (w : World), (callFunc F args).run Try.prog w = .ok (.enter F args) w) (hY : ∀ j, Y j → j < w.heap.size ∧ j ≠ b ∧ j ≠ g) (Z : Nat → Int → List Int → World → Prop)
    (hF : ∀ w1, DoSt w w1 b → AreAt w1 b g cap L → Calls Try.prog F #[tp (w.heap.size + 2), c0] w1 (FDone L b g cap Y w.heap.size w1 Z)) :
    Calls Try.prog 36 #[tp b, .func (.func F) #[] #[c0]] w (DoDone w L b g cap Y Z) := by
  have hmf : ∀ (fn : Fn) (first cap : Array Value) (w : World), (Instr.makeFunc fn first cap).run Try.prog w = .ok (.func fn first cap) w := fun _ _ _ _ => rfl
  have hq : ∀ w, (binOp .eql 67 (.func (.func F) #[] #[c0]) .nilFunc).run Try.prog w = .ok (.bool false) w := fun w => by kernel_rfl
  have hlb := H.hd.1
  have hlg := H.rw.1
  have HH := Lib.hid H
  have HF := Lib.hid hF
  have HY := Lib.hid hY
  clear H hF hY
  unfold tp
  go_enter_defers Try.func36, Try.ntmps36
  go_upto_region 9 with fail
  refine wp_nm ?_
  intro w1 hw1
  have D : DoSt w w1 b := by
    have B0 := Below.refl w.heap.size w
    refine ⟨?_, by rw [hw1]; simp, ?_, ?_, ⟨?_, ?_, ownR_nil _ _, ownR_nil _ _⟩, ?_, ?_⟩
    all_goals rw [hw1]
    · exact b_alloc (b_alloc (b_alloc (b_alloc (b_alloc B0 _) _) _) _) _
    · exact blk_alloc (blk_alloc (blk_alloc (blk_alloc (blk_new w #[.int .i64 0] _) _) _) _) _
    · exact blk_alloc (blk_alloc (blk_alloc (blk_at _ #[.int .i64 0] _ (w.heap.size + 1) (by simp)) _) _) _
    · exact blk_alloc (blk_alloc (blk_at _ #[.pointer (some ⟨b, 0, none⟩), .int .i64 0, .slice none 0 0, .slice none 0 0] _ (w.heap.size + 2) (by simp)) _) _
    · exact tyB_alloc (tyB_alloc (tyB_new2 (by simp)) _) _
    · exact blk_alloc (blk_at _ #[.pointer (some ⟨w.heap.size + 1 + 1, 0, none⟩)] _ (w.heap.size + 3) (by simp)) _
    · exact blk_at _ #[.bool false] _ (w.heap.size + 4) (by simp)
  have hlt1 := D.wh.1
  have HD := Lib.hid D
  have H1 := Lib.hid (are_below HH.out D.bw)
  obtain ⟨a0, af⟩ := blk1 D.vr
  have a0 : w1.cell? ⟨w.heap.size + 3, 0, none⟩ = some (.pointer (some ⟨w.heap.size + 2, 0, none⟩)) := a0
  clear hw1 D
  go_wp2_with fail
  refine (HF.out w1 HD.out H1.out).mono ?_
  rintro e w2 ⟨n, x, M, O, W, ov, wv, hor, hn, V2, A2, hlog, hO, G2, hZ⟩
  have dY : ∀ j, w.heap.size ≤ j → j ≠ w.heap.size + 2 → ¬ (j = w.heap.size + 2 ∨ j = g ∨ Y j) := fun j h1 h2 => by
    rintro (q | q | q)
    · exact h2 q
    · omega
    · have := (HY.out j q).1; omega
  have N2 := blk_gx HD.out.n G2 (dY _ (by omega) (by omega))
  have E2 := blk_gx HD.out.e G2 (dY _ (by omega) (by omega))
  have R2 := blk_gx HD.out.vr G2 (dY _ (by omega) (by omega))
  have W2 := blk_gx HD.out.wh G2 (dY _ (by omega) (by omega))
  have hs2 : w.heap.size + 5 ≤ w2.heap.size := by have := G2.size; rw [HD.out.sz] at this; exact this
  have HZ := Lib.hid hZ
  have HG2 := Lib.hid G2
  have HV2 := Lib.hid V2
  have HA2 := Lib.hid A2
  have HLG := Lib.hid hlog
  have HO2 := Lib.hid hO
  have HN2 := Lib.hid N2
  have HE2 := Lib.hid E2
  have HR2 := Lib.hid R2
  have HW2 := Lib.hid W2
  have HD2 := Lib.hid dY
  have HNN := Lib.hid hn
  clear hZ G2 V2 A2 hlog hO N2 E2 R2 W2 dY a0 af hn
  rcases hor with ⟨rfl, rfl⟩ | ⟨hx, rfl⟩
  · obtain ⟨a0, af⟩ := blk1 HN2.out
    obtain ⟨b0, bf⟩ := blk1 HE2.out
    obtain ⟨c0, cf⟩ := blk1 HR2.out
    obtain ⟨d0, df⟩ := blk1 HW2.out
    obtain ⟨v0, v1, v2, v3, vf⟩ := blk4 HV2.out.bk
    unfold tp at c0 v0
    go_wp2_with fail
    refine post_nm ?_
    intro w3 hw3
    have N3 : Blk w3 w.heap.size [.int .i64 n] := by
      rw [hw3]
      exact blk_other (blk_set (blk_other HN2.out (p := ⟨w.heap.size + 4, 0, none⟩) (by simp only; omega) _) 0 _) (by simp only; omega) _
    have E3 : Blk w3 (w.heap.size + 1) [.int .i64 0] := by
      rw [hw3]
      exact blk_set (blk_other (blk_other HE2.out (p := ⟨w.heap.size + 4, 0, none⟩) (by simp only; omega) _) (by simp only; omega) _) 0 _
    have R3 : Blk w3 (w.heap.size + 3) [tp (w.heap.size + 2)] := by
      rw [hw3]
      exact blk_other (blk_other (blk_other HR2.out (p := ⟨w.heap.size + 4, 0, none⟩) (by simp only; omega) _) (by simp only; omega) _) (by simp only; omega) _
    have W3 : Blk w3 (w.heap.size + 4) [.bool true] := by
      rw [hw3]
      exact blk_other (blk_other (blk_set HW2.out 0 _) (by simp only; omega) _) (by simp only; omega) _
    have G3 : GrowX w2 w3 (fun j => w.heap.size ≤ j ∧ j < w.heap.size + 5) := by
      rw [hw3]
      exact gx_set (gx_set (gx_set (gx_refl _ _) (Or.inr (by simp only; omega)) _) (Or.inr (by simp only; omega)) _) (Or.inr (by simp only; omega)) _
    have V3 : Blk w3 (w.heap.size + 2) [tp b, .int .i64 n, ov, wv] := by
      rw [hw3]
      exact blk_other (blk_other (blk_other HV2.out.bk (p := ⟨w.heap.size + 4, 0, none⟩) (by simp only; omega) _) (by simp only; omega) _) (by simp only; omega) _
    clear hw3 a0 af b0 bf c0 cf d0 df v0 v1 v2 v3 vf
    refine leaves_cons (f := 76) (args := #[tp (w.heap.size + 2), tp (w.heap.size + 4), .pointer (some ⟨w.heap.size + 1, 0, none⟩)]) (by simp) (by simp [go_sem, tp]) ?_
    refine (vend_idle _ V3 W3 (by omega)).mono ?_
    rintro e u' w4 ⟨rfl, rfl, hw4⟩
    have G4 : GrowX w3 w4 (fun j => w.heap.size ≤ j ∧ j < w.heap.size + 5) := by rw [hw4]; exact gx_set (gx_refl _ _) (Or.inr (by simp only; omega)) _
    have V4 : Blk w4 (w.heap.size + 2) [.pointer none, .int .i64 n, ov, wv] := by rw [hw4]; exact blk_set V3 0 _
    have N4 : Blk w4 w.heap.size [.int .i64 n] := by rw [hw4]; exact blk_other N3 (by simp only; omega) _
    have E4 : Blk w4 (w.heap.size + 1) [.int .i64 0] := by rw [hw4]; exact blk_other E3 (by simp only; omega) _
    have R4 : Blk w4 (w.heap.size + 3) [tp (w.heap.size + 2)] := by rw [hw4]; exact blk_other R3 (by simp only; omega) _
    clear hw4 N3 E3 R3 W3 V3
    show Leaves _ _ _ _ _ .returning w4
    refine leaves_cons (f := 75) (args := #[tp (w.heap.size + 3), tp w.heap.size]) (by simp) (by simp [go_sem, tp]) ?_
    refine (do1_any .returning R4 V4 N4).mono ?_
    rintro e u' w5 ⟨rfl, rfl, hw5⟩
    have G5 : GrowX w4 w5 (fun j => w.heap.size ≤ j ∧ j < w.heap.size + 5) := by rw [hw5]; exact gx_set (gx_refl _ _) (Or.inr (by simp only; omega)) _
    have V5 : Blk w5 (w.heap.size + 2) [.pointer none, .int .i64 n, ov, wv] := by rw [hw5]; exact blk_other V4 (by simp only; omega) _
    have N5 : Blk w5 w.heap.size [.int .i64 n] := by rw [hw5]; exact blk_set N4 0 _
    have E5 : Blk w5 (w.heap.size + 1) [.int .i64 0] := by rw [hw5]; exact blk_other E4 (by simp only; omega) _
    clear hw5 N4 E4 R4 V4
    have GA := gx_trans (Z := fun j => w.heap.size ≤ j ∧ j < w.heap.size + 5) (gx_trans (Z := fun j => w.heap.size ≤ j ∧ j < w.heap.size + 5) G3 G4 (fun j _ e => e) (fun j _ e => e)) G5 (fun j _ e => e) (fun j _ e => e)
    have GB := gx_trans (Z := fun j => j = w.heap.size + 2 ∨ j = g ∨ Y j ∨ (w.heap.size ≤ j ∧ j < w.heap.size + 5)) HG2.out GA (fun j _ e => by rcases e with e | e | e; (exact Or.inl e); (exact Or.inr (Or.inl e)); (exact Or.inr (Or.inr (Or.inl e)))) (fun j _ e => Or.inr (Or.inr (Or.inr e)))
    have GC : GrowX w w5 (fun j => j = g ∨ Y j) := gx_mono (gx_pre HD.out.bw GB) (fun j hj e => by rcases e with e | e | e | e; (omega); (exact Or.inl e); (exact Or.inr e); (omega))
    have GD := gx_mono (Y := fun j => j = g ∨ (w.heap.size ≤ j ∧ j < w.heap.size + 5)) GA (fun j hj e => Or.inr e)
    have A5 := are_gx HA2.out GA (by omega) (by omega)
    obtain ⟨p0, pf⟩ := blk1 N5
    obtain ⟨q0, qf⟩ := blk1 E5
    have hfin : DoDone w L b g cap Y Z (.returned (.tuple #[.int .i64 n, .int .i64 0])) w5 := ⟨n, 0, M, w2, rfl, by rw [if_pos rfl]; exact A5, GC, GD, hs2, ⟨_, _, _, V5⟩, HZ.out⟩
    clear GA GB GC GD A5 V5 N5 E5 G3 G4 G5 pf qf
    simp [Leaves, settle, results, Try.results36, go_sem, p0, q0]
    exact hfin
  · go_wp2_with fail
    refine leaves_cons (f := 76) (args := #[tp (w.heap.size + 2), tp (w.heap.size + 4), tp (w.heap.size + 1)]) (by simp) (by simp [go_sem, tp]) ?_
    refine (vend_fell HA2.out HV2.out HLG.out (by have := HO2.out; omega) hlg hlb (by omega) (by omega) (by omega) HW2.out HE2.out (by omega) (by omega) (by omega)).mono ?_
    rintro e u' w4 ⟨rfl, rfl, E4, V4, A4, G4⟩
    have N4 := blk_gx HN2.out G4 (by omega)
    have R4 := blk_gx HR2.out G4 (by omega)
    show Leaves _ _ _ _ _ .returning w4
    refine leaves_cons (f := 75) (args := #[tp (w.heap.size + 3), tp w.heap.size]) (by simp) (by simp [go_sem, tp]) ?_
    refine (do1_any .returning R4 V4 N4).mono ?_
    rintro e u' w5 ⟨rfl, rfl, hw5⟩
    have G5 : GrowX w4 w5 (fun j => j = w.heap.size) := by rw [hw5]; exact gx_set (X := fun j => j = w.heap.size) (gx_refl _ _) (Or.inr rfl) _
    have V5 : Blk w5 (w.heap.size + 2) [.pointer none, .int .i64 n, ov, wv] := by rw [hw5]; exact blk_other V4 (by simp only; omega) _
    have N5 : Blk w5 w.heap.size [.int .i64 n] := by rw [hw5]; exact blk_set N4 0 _
    have E5 : Blk w5 (w.heap.size + 1) [.int .i64 x] := by rw [hw5]; exact blk_other E4 (by simp only; omega) _
    have A5 := are_gx A4 G5 (by omega) (by omega)
    clear hw5 N4 E4 R4 V4
    have GA := gx_trans (Z := fun j => j = g ∨ (w.heap.size ≤ j ∧ j < w.heap.size + 5)) G4 G5 (fun j _ e => by rcases e with e | e | e; (exact Or.inl e); (right; omega); (right; omega)) (fun j _ e => by right; omega)
    have GB := gx_trans (Z := fun j => j = w.heap.size + 2 ∨ j = g ∨ Y j ∨ (w.heap.size ≤ j ∧ j < w.heap.size + 5)) HG2.out GA (fun j _ e => by rcases e with e | e | e; (exact Or.inl e); (exact Or.inr (Or.inl e)); (exact Or.inr (Or.inr (Or.inl e)))) (fun j _ e => by rcases e with e | e; (exact Or.inr (Or.inl e)); (exact Or.inr (Or.inr (Or.inr e))))
    have GC : GrowX w w5 (fun j => j = g ∨ Y j) := gx_mono (gx_pre HD.out.bw GB) (fun j hj e => by rcases e with e | e | e | e; (omega); (exact Or.inl e); (exact Or.inr e); (omega))
    obtain ⟨p0, pf⟩ := blk1 N5
    obtain ⟨q0, qf⟩ := blk1 E5
    have hfin : DoDone w L b g cap Y Z (.returned (.tuple #[.int .i64 n, .int .i64 x])) w5 := ⟨n, x, M, w2, rfl, by rw [if_neg hx]; exact A5, GC, GA, hs2, ⟨_, _, _, V5⟩, HZ.out⟩
    clear GA GB GC A5 A4 V5 N5 E5 G4 G5 pf qf
    simp [Leaves, settle, results, Try.results36, go_sem, p0, q0]
    exact hfin
set_option maxRecDepth 100000 in
set_option maxHeartbeats 2000000 in
theorem ado2 {w : World} {b g cap : Nat} {L : List Int} (H : AreAt w b g cap L) (F : Nat) (c0 c1 : Value) (Y : Nat → Prop) (hcall : ∀ (args : Array Value) (w : World), (callFunc F args).run Try.prog w = .ok (.enter F args) w) (hY : ∀ j, Y j → j < w.heap.size ∧ j ≠ b ∧ j ≠ g) (Z : Nat → Int → List Int → World → Prop)
    (hF : ∀ w1, DoSt w w1 b → AreAt w1 b g cap L → Calls Try.prog F #[tp (w.heap.size + 2), c0, c1] w1 (FDone L b g cap Y w.heap.size w1 Z)) :
    Calls Try.prog 36 #[tp b, .func (.func F) #[] #[c0, c1]] w (DoDone w L b g cap Y Z) := by
  have hmf : ∀ (fn : Fn) (first cap : Array Value) (w : World), (Instr.makeFunc fn first cap).run Try.prog w = .ok (.func fn first cap) w := fun _ _ _ _ => rfl
  have hq : ∀ w, (binOp .eql 67 (.func (.func F) #[] #[c0, c1]) .nilFunc).run Try.prog w = .ok (.bool false) w := fun w => by kernel_rfl
  have hlb := H.hd.1
  have hlg := H.rw.1
  have HH := Lib.hid H
  have HF := Lib.hid hF
  have HY := Lib.hid hY
  clear H hF hY
  unfold tp
  go_enter_defers Try.func36, Try.ntmps36
  go_upto_region 9 with fail
  refine wp_nm ?_
  intro w1 hw1
  have D : DoSt w w1 b := by
    have B0 := Below.refl w.heap.size w
    refine ⟨?_, by rw [hw1]; simp, ?_, ?_, ⟨?_, ?_, ownR_nil _ _, ownR_nil _ _⟩, ?_, ?_⟩
    all_goals rw [hw1]
    · exact b_alloc (b_alloc (b_alloc (b_alloc (b_alloc B0 _) _) _) _) _
    · exact blk_alloc (blk_alloc (blk_alloc (blk_alloc (blk_new w #[.int .i64 0] _) _) _) _) _
    · exact blk_alloc (blk_alloc (blk_alloc (blk_at _ #[.int .i64 0] _ (w.heap.size + 1) (by simp)) _) _) _
    · exact blk_alloc (blk_alloc (blk_at _ #[.pointer (some ⟨b, 0, none⟩), .int .i64 0, .slice none 0 0, .slice none 0 0] _ (w.heap.size + 2) (by simp)) _) _
    · exact tyB_alloc (tyB_alloc (tyB_new2 (by simp)) _) _
    · exact blk_alloc (blk_at _ #[.pointer (some ⟨w.heap.size + 1 + 1, 0, none⟩)] _ (w.heap.size + 3) (by simp)) _
    · exact blk_at _ #[.bool false] _ (w.heap.size + 4) (by simp)
  have hlt1 := D.wh.1
  have HD := Lib.hid D
  have H1 := Lib.hid (are_below HH.out D.bw)
  obtain ⟨a0, af⟩ := blk1 D.vr
  have a0 : w1.cell? ⟨w.heap.size + 3, 0, none⟩ = some (.pointer (some ⟨w.heap.size + 2, 0, none⟩)) := a0
  clear hw1 D
  go_wp2_with fail
  refine (HF.out w1 HD.out H1.out).mono ?_
  rintro e w2 ⟨n, x, M, O, W, ov, wv, hor, hn, V2, A2, hlog, hO, G2, hZ⟩
  have dY : ∀ j, w.heap.size ≤ j → j ≠ w.heap.size + 2 → ¬ (j = w.heap.size + 2 ∨ j = g ∨ Y j) := fun j h1 h2 => by
    rintro (q | q | q)
    · exact h2 q
    · omega
    · have := (HY.out j q).1; omega
  have N2 := blk_gx HD.out.n G2 (dY _ (by omega) (by omega))
  have E2 := blk_gx HD.out.e G2 (dY _ (by omega) (by omega))
  have R2 := blk_gx HD.out.vr G2 (dY _ (by omega) (by omega))
  have W2 := blk_gx HD.out.wh G2 (dY _ (by omega) (by omega))
  have hs2 : w.heap.size + 5 ≤ w2.heap.size := by have := G2.size; rw [HD.out.sz] at this; exact this
  have HZ := Lib.hid hZ
  have HG2 := Lib.hid G2
  have HV2 := Lib.hid V2
  have HA2 := Lib.hid A2
  have HLG := Lib.hid hlog
  have HO2 := Lib.hid hO
  have HN2 := Lib.hid N2
  have HE2 := Lib.hid E2
  have HR2 := Lib.hid R2
  have HW2 := Lib.hid W2
  have HD2 := Lib.hid dY
  have HNN := Lib.hid hn
  clear hZ G2 V2 A2 hlog hO N2 E2 R2 W2 dY a0 af hn
  rcases hor with ⟨rfl, rfl⟩ | ⟨hx, rfl⟩
  · obtain ⟨a0, af⟩ := blk1 HN2.out
    obtain ⟨b0, bf⟩ := blk1 HE2.out
    obtain ⟨c0, cf⟩ := blk1 HR2.out
    obtain ⟨d0, df⟩ := blk1 HW2.out
    obtain ⟨v0, v1, v2, v3, vf⟩ := blk4 HV2.out.bk
    unfold tp at c0 v0
    go_wp2_with fail
    refine post_nm ?_
    intro w3 hw3
    have N3 : Blk w3 w.heap.size [.int .i64 n] := by
      rw [hw3]
      exact blk_other (blk_set (blk_other HN2.out (p := ⟨w.heap.size + 4, 0, none⟩) (by simp only; omega) _) 0 _) (by simp only; omega) _
    have E3 : Blk w3 (w.heap.size + 1) [.int .i64 0] := by
      rw [hw3]
      exact blk_set (blk_other (blk_other HE2.out (p := ⟨w.heap.size + 4, 0, none⟩) (by simp only; omega) _) (by simp only; omega) _) 0 _
    have R3 : Blk w3 (w.heap.size + 3) [tp (w.heap.size + 2)] := by
      rw [hw3]
      exact blk_other (blk_other (blk_other HR2.out (p := ⟨w.heap.size + 4, 0, none⟩) (by simp only; omega) _) (by simp only; omega) _) (by simp only; omega) _
    have W3 : Blk w3 (w.heap.size + 4) [.bool true] := by
      rw [hw3]
      exact blk_other (blk_other (blk_set HW2.out 0 _) (by simp only; omega) _) (by simp only; omega) _
    have G3 : GrowX w2 w3 (fun j => w.heap.size ≤ j ∧ j < w.heap.size + 5) := by
      rw [hw3]
      exact gx_set (gx_set (gx_set (gx_refl _ _) (Or.inr (by simp only; omega)) _) (Or.inr (by simp only; omega)) _) (Or.inr (by simp only; omega)) _
    have V3 : Blk w3 (w.heap.size + 2) [tp b, .int .i64 n, ov, wv] := by
      rw [hw3]
      exact blk_other (blk_other (blk_other HV2.out.bk (p := ⟨w.heap.size + 4, 0, none⟩) (by simp only; omega) _) (by simp only; omega) _) (by simp only; omega) _
    clear hw3 a0 af b0 bf c0 cf d0 df v0 v1 v2 v3 vf
    refine leaves_cons (f := 76) (args := #[tp (w.heap.size + 2), tp (w.heap.size + 4), .pointer (some ⟨w.heap.size + 1, 0, none⟩)]) (by simp) (by simp [go_sem, tp]) ?_
    refine (vend_idle _ V3 W3 (by omega)).mono ?_
    rintro e u' w4 ⟨rfl, rfl, hw4⟩
    have G4 : GrowX w3 w4 (fun j => w.heap.size ≤ j ∧ j < w.heap.size + 5) := by rw [hw4]; exact gx_set (gx_refl _ _) (Or.inr (by simp only; omega)) _
    have V4 : Blk w4 (w.heap.size + 2) [.pointer none, .int .i64 n, ov, wv] := by rw [hw4]; exact blk_set V3 0 _
    have N4 : Blk w4 w.heap.size [.int .i64 n] := by rw [hw4]; exact blk_other N3 (by simp only; omega) _
    have E4 : Blk w4 (w.heap.size + 1) [.int .i64 0] := by rw [hw4]; exact blk_other E3 (by simp only; omega) _
    have R4 : Blk w4 (w.heap.size + 3) [tp (w.heap.size + 2)] := by rw [hw4]; exact blk_other R3 (by simp only; omega) _
    clear hw4 N3 E3 R3 W3 V3
    show Leaves _ _ _ _ _ .returning w4
    refine leaves_cons (f := 75) (args := #[tp (w.heap.size + 3), tp w.heap.size]) (by simp) (by simp [go_sem, tp]) ?_
    refine (do1_any .returning R4 V4 N4).mono ?_
    rintro e u' w5 ⟨rfl, rfl, hw5⟩
    have G5 : GrowX w4 w5 (fun j => w.heap.size ≤ j ∧ j < w.heap.size + 5) := by rw [hw5]; exact gx_set (gx_refl _ _) (Or.inr (by simp only; omega)) _
    have V5 : Blk w5 (w.heap.size + 2) [.pointer none, .int .i64 n, ov, wv] := by rw [hw5]; exact blk_other V4 (by simp only; omega) _
    have N5 : Blk w5 w.heap.size [.int .i64 n] := by rw [hw5]; exact blk_set N4 0 _
    have E5 : Blk w5 (w.heap.size + 1) [.int .i64 0] := by rw [hw5]; exact blk_other E4 (by simp only; omega) _
    clear hw5 N4 E4 R4 V4
    have GA := gx_trans (Z := fun j => w.heap.size ≤ j ∧ j < w.heap.size + 5) (gx_trans (Z := fun j => w.heap.size ≤ j ∧ j < w.heap.size + 5) G3 G4 (fun j _ e => e) (fun j _ e => e)) G5 (fun j _ e => e) (fun j _ e => e)
    have GB := gx_trans (Z := fun j => j = w.heap.size + 2 ∨ j = g ∨ Y j ∨ (w.heap.size ≤ j ∧ j < w.heap.size + 5)) HG2.out GA (fun j _ e => by rcases e with e | e | e; (exact Or.inl e); (exact Or.inr (Or.inl e)); (exact Or.inr (Or.inr (Or.inl e)))) (fun j _ e => Or.inr (Or.inr (Or.inr e)))
    have GC : GrowX w w5 (fun j => j = g ∨ Y j) := gx_mono (gx_pre HD.out.bw GB) (fun j hj e => by rcases e with e | e | e | e; (omega); (exact Or.inl e); (exact Or.inr e); (omega))
    have GD := gx_mono (Y := fun j => j = g ∨ (w.heap.size ≤ j ∧ j < w.heap.size + 5)) GA (fun j hj e => Or.inr e)
    have A5 := are_gx HA2.out GA (by omega) (by omega)
    obtain ⟨p0, pf⟩ := blk1 N5
    obtain ⟨q0, qf⟩ := blk1 E5
    have hfin : DoDone w L b g cap Y Z (.returned (.tuple #[.int .i64 n, .int .i64 0])) w5 := ⟨n, 0, M, w2, rfl, by rw [if_pos rfl]; exact A5, GC, GD, hs2, ⟨_, _, _, V5⟩, HZ.out⟩
    clear GA GB GC GD A5 V5 N5 E5 G3 G4 G5 pf qf
    simp [Leaves, settle, results, Try.results36, go_sem, p0, q0]
    exact hfin
  · go_wp2_with fail
    refine leaves_cons (f := 76) (args := #[tp (w.heap.size + 2), tp (w.heap.size + 4), tp (w.heap.size + 1)]) (by simp) (by simp [go_sem, tp]) ?_
    refine (vend_fell HA2.out HV2.out HLG.out (by have := HO2.out; omega) hlg hlb (by omega) (by omega) (by omega) HW2.out HE2.out (by omega) (by omega) (by omega)).mono ?_
    rintro e u' w4 ⟨rfl, rfl, E4, V4, A4, G4⟩
    have N4 := blk_gx HN2.out G4 (by omega)
    have R4 := blk_gx HR2.out G4 (by omega)
    show Leaves _ _ _ _ _ .returning w4
    refine leaves_cons (f := 75) (args := #[tp (w.heap.size + 3), tp w.heap.size]) (by simp) (by simp [go_sem, tp]) ?_
    refine (do1_any .returning R4 V4 N4).mono ?_
    rintro e u' w5 ⟨rfl, rfl, hw5⟩
    have G5 : GrowX w4 w5 (fun j => j = w.heap.size) := by rw [hw5]; exact gx_set (X := fun j => j = w.heap.size) (gx_refl _ _) (Or.inr rfl) _
    have V5 : Blk w5 (w.heap.size + 2) [.pointer none, .int .i64 n, ov, wv] := by rw [hw5]; exact blk_other V4 (by simp only; omega) _
    have N5 : Blk w5 w.heap.size [.int .i64 n] := by rw [hw5]; exact blk_set N4 0 _
    have E5 : Blk w5 (w.heap.size + 1) [.int .i64 x] := by rw [hw5]; exact blk_other E4 (by simp only; omega) _
    have A5 := are_gx A4 G5 (by omega) (by omega)
    clear hw5 N4 E4 R4 V4
    have GA := gx_trans (Z := fun j => j = g ∨ (w.heap.size ≤ j ∧ j < w.heap.size + 5)) G4 G5 (fun j _ e => by rcases e with e | e | e; (exact Or.inl e); (right; omega); (right; omega)) (fun j _ e => by right; omega)
    have GB := gx_trans (Z := fun j => j = w.heap.size + 2 ∨ j = g ∨ Y j ∨ (w.heap.size ≤ j ∧ j < w.heap.size + 5)) HG2.out GA (fun j _ e => by rcases e with e | e | e; (exact Or.inl e); (exact Or.inr (Or.inl e)); (exact Or.inr (Or.inr (Or.inl e)))) (fun j _ e => by rcases e with e | e; (exact Or.inr (Or.inl e)); (exact Or.inr (Or.inr (Or.inr e))))
    have GC : GrowX w w5 (fun j => j = g ∨ Y j) := gx_mono (gx_pre HD.out.bw GB) (fun j hj e => by rcases e with e | e | e | e; (omega); (exact Or.inl e); (exact Or.inr e); (omega))
    obtain ⟨p0, pf⟩ := blk1 N5
    obtain ⟨q0, qf⟩ := blk1 E5
    have hfin : DoDone w L b g cap Y Z (.returned (.tuple #[.int .i64 n, .int .i64 x])) w5 := ⟨n, x, M, w2, rfl, by rw [if_neg hx]; exact A5, GC, GA, hs2, ⟨_, _, _, V5⟩, HZ.out⟩
    clear GA GB GC A5 A4 V5 N5 E5 G4 G5 pf qf
    simp [Leaves, settle, results, Try.results36, go_sem, p0, q0]
    exact hfin
end Go.Proofs.Ytgbbnmjfkhconaa
