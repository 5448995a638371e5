/- Layer 3: how a Do ends: what is deferred. Conditions: those stated. -/
import Derived.Test.YtgbbnmjfkhconaaAreU
namespace Go.Proofs.Ytgbbnmjfkhconaa
open Go.RowKit
set_option linter.unusedVariables false
set_option linter.unusedSimpArgs false
attribute [local go_sem] over_cell over_frozen
theorem wpS_seq_wp {P : Program} {Q : Exit → Act → List Frame → World → Prop} {a : Act} {cs : List Frame} {w : World} {x y : Code} (h : x.wp P (Exit.then (fun a' w' => y.wpS P Q a' cs w') (fun e a' w' => Q e a' cs w')) a w) : (Code.seq x y).wpS P Q a cs w := by
  refine wpS_seq (wpS_of_wp ?_)
  have e : (fun e a' w' => Exit.thenS (y.wpS P Q) Q e a' cs w') = Exit.then (fun a' w' => y.wpS P Q a' cs w') (fun e a' w' => Q e a' cs w') := by
    funext e a' w'
    cases e <;> rfl
  rw [e]; exact h
theorem do1_any {w : World} {vr nb vb : Nat} {u0 u2 u3 : Value} {n : Int} {m : Value} (u : FrameMode) (hv : Blk w vr [tp vb]) (hb : Blk w vb [u0, .int .i64 n, u2, u3]) (hn : Blk w nb [m]) : CallsD Try.prog 75 #[tp vr, tp nb] u w fun e u' w' => e = .returned (.tuple #[]) ∧ u' = u ∧ w' = w.setCell ⟨nb, 0, none⟩ (.int .i64 n) := by
  obtain ⟨c0, cf⟩ := blk1 hv
  obtain ⟨d0, d1, d2, d3, df⟩ := blk4 hb
  obtain ⟨e0, ef⟩ := blk1 hn
  have hl := hn.1
  unfold tp at *
  clear hv hb hn
  have key : CallsD Try.prog 75 #[.pointer (some ⟨vr, 0, none⟩), .pointer (some ⟨nb, 0, none⟩)] u w fun e u' w' => u' = u ∧ (e = .returned (.tuple #[]) ∧ w' = w.setCell ⟨nb, 0, none⟩ (.int .i64 n)) := by
    go_enter_d Try.func75, Try.ntmps75
    go_wp2_with fail
    exact ⟨rfl, .tuple #[], by simp [results, Try.results75, go_sem], rfl, rfl⟩
  exact key.mono fun e u' w' ⟨h1, h2, h3⟩ => ⟨h2, h1, h3⟩
theorem vend_idle {w : World} {vb b wb : Nat} {u1 u2 u3 : Value} (q : Addr) (V : Blk w vb [tp b, u1, u2, u3]) (hw : Blk w wb [.bool true]) (hne : wb ≠ vb) : CallsD Try.prog 76 #[tp vb, tp wb, .pointer (some q)] .returning w fun e u' w' => e = .returned (.tuple #[]) ∧ u' = .returning ∧ w' = w.setCell ⟨vb, 0, none⟩ (.pointer none) := by
  obtain ⟨c0, cf⟩ := blk1 hw
  obtain ⟨d0, d1, d2, d3, df⟩ := blk4 V
  have hl := V.1
  have hne2 : ¬ vb = wb := fun e => hne e.symm
  unfold tp at *
  clear V hw
  have key : CallsD Try.prog 76 #[.pointer (some ⟨vb, 0, none⟩), .pointer (some ⟨wb, 0, none⟩), .pointer (some q)] .returning w fun e u' w' => u' = .returning ∧ (e = .returned (.tuple #[]) ∧ w' = w.setCell ⟨vb, 0, none⟩ (.pointer none)) := by
    go_enter_d Try.func76, Try.ntmps76
    go_wp2_with fail
    exact ⟨rfl, .tuple #[], by simp [results, Try.results76, go_sem], rfl, rfl⟩
  exact key.mono fun e u' w' ⟨h1, h2, h3⟩ => ⟨h2, h1, h3⟩
set_option maxRecDepth 100000 in
set_option maxHeartbeats 400000 in
theorem vend_fell {w : World} {vb b g cap B wb eb : Nat} {n x : Int} {ov wv : Value} {O W L M : List Int} (H : AreAt w b g cap M) (V : ViewAt w vb (tp b) n ov wv B O W) (hU : LogAt L M O W) (hO : O.length ≤ 100000) (hg : g < B) (hb : b < B) (hvb : B ≤ vb) (hwb : B ≤ wb) (heb : B ≤ eb) (hw : Blk w wb [.bool false]) (he : Blk w eb [.int .i64 0]) (n1 : wb ≠ vb) (n2 : eb ≠ vb) (n3 : eb ≠ wb) :
    CallsD Try.prog 76 #[tp vb, tp wb, tp eb] (.panicking [{ v := .iface TRPT (.agg #[.int .i64 x]), recovered := false }]) w fun e u' w' => e = .returned (.tuple #[]) ∧ u' = .panicking [{ v := .iface TRPT (.agg #[.int .i64 x]), recovered := true }] ∧ Blk w' eb [.int .i64 x] ∧ Blk w' vb [.pointer none, .int .i64 n, ov, wv] ∧ AreAt w' b g cap L ∧ GrowX w w' (fun j => j = g ∨ j = vb ∨ j = eb) := by
  have HUN := Lib.hid (vundo_any H V hg hvb hU.len hO hU.num)
  rw [hU.back] at HUN
  have hta : ∀ w, (Instr.typeAssert (.iface 148 (.agg #[.int .i64 x])) 20 148 true).run Try.prog w = .ok (.tuple #[.agg #[.int .i64 x], .bool true]) w := fun _ => by kernel_rfl
  have HV := Lib.hid V
  have HB := Lib.hid (show g < B ∧ b < B ∧ B ≤ vb ∧ B ≤ wb ∧ B ≤ eb from ⟨hg, hb, hvb, hwb, heb⟩)
  have HW := Lib.hid hw
  have HE := Lib.hid he
  have hneq : ¬ vb = wb := fun e => n1 e.symm
  obtain ⟨c0, cf⟩ := blk1 hw
  obtain ⟨d0, d1, d2, d3, df⟩ := blk4 V.bk
  have N2 := Lib.hid n2
  have N3 := Lib.hid n3
  clear H V hU hO hg hb hvb hwb heb hw he n2 n3
  unfold TRPT tp at *
  refine callsD_of_wpS Try.func76 rfl fun c₀ cs hu => ?_
  simp only [Try.ntmps76, List.size_toArray, List.length_cons, List.length_nil, Nat.reduceAdd, Nat.reduceSub, Array.replicate_succ, Array.replicate_zero, List.push_toArray, List.append_toArray, List.nil_append, List.cons_append]
  refine wpS_seq_wp ?_
  go_wp2_with fail
  refine wpS_seq_wp ?_
  go_wp2_with fail
  refine HUN.out.mono ?_
  rintro e w1 ⟨rfl, H1, G1⟩
  have GX1 := gx_gb (X := fun j => j = g) G1 (fun k e => by injection e with e; exact e.symm)
  obtain ⟨b1, b2, b3, b4, b5⟩ := HB.out
  have V1 := view_gx HV.out GX1 (by omega) (fun j hj e => by have := (ownR_lt HV.out.o j hj).1; omega) (fun j hj e => by have := (ownR_lt HV.out.wh j hj).1; omega)
  have W1 := blk_gx HW.out GX1 (by omega)
  have E1 := blk_gx HE.out GX1 (by omega)
  clear c0 cf d0 d1 d2 d3 df
  obtain ⟨c0, cf⟩ := blk1 W1
  obtain ⟨d0, d1, d2, d3, df⟩ := blk4 V1.bk
  have hl := V1.bk.1
  have HV1 := Lib.hid V1
  have HE1 := Lib.hid E1
  have HH1 := Lib.hid H1
  have HG1 := Lib.hid GX1
  clear V1 E1 H1 GX1 G1 W1 b1 b2 b3 b4 b5
  go_wp2_with fail
  refine wpS_seq_wp ?_
  go_wp2_with fail
  refine wpS_seq_wp ?_
  go_wp2_with fail
  obtain ⟨w2, hw2⟩ : ∃ w2, w2 = w1.setCell ⟨vb, 0, none⟩ (.pointer none) := ⟨_, rfl⟩
  rw [← hw2]
  obtain ⟨b1, b2, b3, b4, b5⟩ := HB.out
  have n2 := N2.out
  have n3 := N3.out
  have G2 : w1.grownBy w2 (some vb) := by rw [hw2]; exact gb_set (gb_refl _ _) _ _ _
  have GX2 := gx_gb (X := fun j => j = vb) G2 (fun k e => by injection e with e; exact e.symm)
  have V2 : Blk w2 vb [.pointer none, .int .i64 n, ov, wv] := by rw [hw2]; exact blk_set HV1.out.bk 0 _
  have E2 := blk_gx HE1.out GX2 n2
  have H2 := are_gx HH1.out GX2 (by omega) (by omega)
  have GW := gx_trans (Z := fun j => j = g ∨ j = vb ∨ j = eb) HG1.out GX2 (fun j _ e => Or.inl e) (fun j _ e => Or.inr (Or.inl e))
  clear hw2 c0 cf d0 d1 d2 d3 df hl G2 GX2
  obtain ⟨e0, ef⟩ := blk1 E2
  have el := E2.1
  have HV2 := Lib.hid V2
  have HE2 := Lib.hid E2
  have HH2 := Lib.hid H2
  have HGW := Lib.hid GW
  clear V2 E2 H2 GW n2 n3 b1 b2 b3 b4 b5
  apply wpS_seq
  apply wpS_region
  simp [wpOpsS, go_sem, recoverD, hu, Exit.thenS]
  refine wpS_of_wp ?_
  go_wp2_with fail
  have G3 : w2.grownBy (w2.setCell ⟨eb, 0, none⟩ (.int .i64 x)) (some eb) := gb_set (gb_refl _ _) _ _ _
  have GX3 := gx_gb (X := fun j => j = eb) G3 (fun k e => by injection e with e; exact e.symm)
  obtain ⟨b1, b2, b3, b4, b5⟩ := HB.out
  have n2 := N2.out
  have V3 := blk_alloc (blk_gx HV2.out GX3 (fun e => n2 e.symm)) (.cells #[.int .i64 x] 148)
  have H3 := are_below (are_gx HH2.out GX3 (by omega) (by omega)) (b_alloc (Below.refl _ _) (.cells #[.int .i64 x] 148))
  have E3 := blk_alloc (blk_set HE2.out 0 (.int .i64 x)) (.cells #[.int .i64 x] 148)
  have GW3 := gx_alloc (gx_trans (Z := fun j => j = g ∨ j = vb ∨ j = eb) HGW.out GX3 (fun j _ e => e) (fun j _ e => Or.inr (Or.inr e))) (.cells #[.int .i64 x] 148)
  exact ⟨rfl, _, rfl, .tuple #[], by simp [results, Try.results76, go_sem], rfl, rfl, E3, V3, H3, GW3⟩
/-- What the function that is done has done. -/
def FDone (L : List Int) (b g cap : Nat) (Y : Nat → Prop) (B : Nat) (w1 : World) (Z : Nat → Int → List Int → World → Prop) (e : Ending) (w' : World) : Prop :=
  ∃ (n : Nat) (x : Int) (M O W : List Int) (ov wv : Value), ((x = 0 ∧ e = .returned (.tuple #[])) ∨ (x ≠ 0 ∧ Trapped x e)) ∧ n ≤ 1000 ∧ ViewAt w' (B + 2) (tp b) n ov wv B O W ∧ AreAt w' b g cap M ∧ LogAt L M O W ∧ O.length ≤ 1000 ∧ GrowX w1 w' (fun j => j = B + 2 ∨ j = g ∨ Y j) ∧ Z n x M w'
def DoDone (w : World) (L : List Int) (b g cap : Nat) (Y : Nat → Prop) (Z : Nat → Int → List Int → World → Prop) (e : Ending) (w'' : World) : Prop :=
  ∃ (n : Nat) (x : Int) (M : List Int) (w' : World), e = .returned (.tuple #[.int .i64 n, .int .i64 x]) ∧ AreAt w'' b g cap (if x = 0 then M else L) ∧ GrowX w w'' (fun j => j = g ∨ Y j) ∧ GrowX w' w'' (fun j => j = g ∨ (w.heap.size ≤ j ∧ j < w.heap.size + 5)) ∧ w.heap.size + 5 ≤ w'.heap.size ∧ (∃ u1 u2 u3, Blk w'' (w.heap.size + 2) [.pointer none, u1, u2, u3]) ∧ Z n x M w'
end Go.Proofs.Ytgbbnmjfkhconaa
