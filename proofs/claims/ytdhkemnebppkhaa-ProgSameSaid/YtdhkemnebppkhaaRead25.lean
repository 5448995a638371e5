/- Layer 25: Read: bytes' program, or that there is none. Conditions: the bytes are bytes, and not too many. -/
import Derived.Test.YtdhkemnebppkhaaRdQ25
import Derived.Test.YtdhkemnebppkhaaRdD25
namespace Go.Proofs.Ytdhkemnebppkhaa
open Go.RowKit
set_option linter.unusedVariables false
set_option linter.unusedSimpArgs false
def prV0 : PrV := ⟨false, ⟨none, 0, 0⟩, 0, ⟨none, 0, 0⟩⟩
def prM0 : PrM := ⟨false, [], 0, []⟩
def ReadEnd (R : Option PrM) (w : World) (e : Ending) (w' : World) : Prop := match R with
  | none => e = .returned (.tuple #[aggP prV0, .int .i64 4]) ∧ Below w.heap.size w w'
  | some P => ∃ q, e = .returned (.tuple #[aggP q, .int .i64 0]) ∧ MadeP w' w.heap.size q P ∧ Below w.heap.size w w'
theorem readEnd_none' {R : Option PrM} {w : World} {e : Ending} {w' : World} (hR : R = none) (h : e = .returned (.tuple #[aggP prV0, .int .i64 4]) ∧ Below w.heap.size w w') : ReadEnd R w e w' := by subst hR; exact h
theorem readEnd_some' {R : Option PrM} {w : World} {e : Ending} {w' : World} {P : PrM} (hR : R = some P) (h : ∃ q, e = .returned (.tuple #[aggP q, .int .i64 0]) ∧ MadeP w' w.heap.size q P ∧ Below w.heap.size w w') : ReadEnd R w e w' := by subst hR; exact h
theorem readEnd_none {R : Option PrM} {w : World} {e : Ending} {w' : World} (h : ReadEnd R w e w') (hR : R = none) : e = .returned (.tuple #[aggP prV0, .int .i64 4]) ∧ Below w.heap.size w w' := by subst hR; exact h
theorem readEnd_some {R : Option PrM} {w : World} {e : Ending} {w' : World} {P : PrM} (h : ReadEnd R w e w') (hR : R = some P) : ∃ q, e = .returned (.tuple #[aggP q, .int .i64 0]) ∧ MadeP w' w.heap.size q P ∧ Below w.heap.size w w' := by subst hR; exact h
theorem madeP_mono {w : World} {B B' : Nat} {q : PrV} {P : PrM} (h : MadeP w B q P) (hB : B' ≤ B) : MadeP w B' q P := by
  obtain ⟨e1, e2, h3, h4, L, h5, h6⟩ := h
  exact ⟨e1, e2, h3, h4, L, ownR_mono h5 hB, h6⟩
def ERRT : TypeId := 38
set_option maxRecDepth 100000 in
set_option maxHeartbeats 2000000 in
theorem pread_any (u : Value) (xs : List Int) (w : World) (h : ReadB w u xs) (hb : IsBytes xs) (hl : xs.length ≤ 274877906944) : Calls Try.prog 32 #[u] w (ReadEnd (rdProg xs) w) := by
  have hmf : ∀ (fn : Fn) (first cap : Array Value) (w : World), (Instr.makeFunc fn first cap).run Try.prog w = .ok (.func fn first cap) w := fun _ _ _ _ => rfl
  have HL := Lib.hid hl
  have h2 := readB_below h (b_alloc (b_alloc (Below.refl w.heap.size w) (.cells #[.bool false, .slice none 0 0, .int .i64 0, .slice none 0 0] PROT)) (.cells #[.int .i64 0] ERRT))
  have H2 := Lib.hid h2
  have HBY := Lib.hid hb
  have HB0 := Lib.hid (b_alloc (b_alloc (Below.refl w.heap.size w) (.cells #[.bool false, .slice none 0 0, .int .i64 0, .slice none 0 0] PROT)) (.cells #[.int .i64 0] ERRT))
  have HP0 : Hid (Blk ((w.alloc (.cells #[.bool false, .slice none 0 0, .int .i64 0, .slice none 0 0] PROT)).alloc (.cells #[.int .i64 0] ERRT)) w.heap.size [.bool false, .slice none 0 0, .int .i64 0, .slice none 0 0]) := blk_alloc (blk_new _ _ _) _
  have HTP0 : Hid (tyB ((w.alloc (.cells #[.bool false, .slice none 0 0, .int .i64 0, .slice none 0 0] PROT)).alloc (.cells #[.int .i64 0] ERRT)) w.heap.size = some PROT) := tyB_alloc (tyB_new _ _ _) _
  have HE0 : Hid (Blk ((w.alloc (.cells #[.bool false, .slice none 0 0, .int .i64 0, .slice none 0 0] PROT)).alloc (.cells #[.int .i64 0] ERRT)) (w.heap.size + 1) [.int .i64 0]) := blk_new2 (by simp)
  have HTE0 : Hid (tyB ((w.alloc (.cells #[.bool false, .slice none 0 0, .int .i64 0, .slice none 0 0] PROT)).alloc (.cells #[.int .i64 0] ERRT)) (w.heap.size + 1) = some ERRT) := tyB_new2 (by simp)
  clear h h2 hb hl
  go_enter_defers Try.func32, Try.ntmps32
  go_wp2_with fail
  refine (bclone_any u xs _ H2.out HL.out).mono ?_
  rintro e w1 ⟨v1, rfl, hr1, hown, hb1⟩
  have hsz1 := hb1.size
  simp only [World.size_alloc] at hsz1
  obtain ⟨va, vc, rfl⟩ := readB_len hr1
  obtain ⟨v1, hv1⟩ : ∃ v1, v1 = Value.slice va xs.length vc := ⟨_, rfl⟩
  rw [← hv1] at hr1 hown
  have RS : RdSt (w1.alloc (.cells #[v1] RDRT)) w1.heap.size xs := ⟨tyB_new _ _ _, v1, blk_new _ _ _, readB_below hr1 (b_alloc (Below.refl _ _) _), fun k hk => (hown k hk).2⟩
  have BP1 := Lib.hid (blk_alloc (blk_below HP0.out hb1) (.cells #[v1] RDRT))
  have TP1 := Lib.hid (tyB_alloc (tyB_call HTP0.out hb1) (.cells #[v1] RDRT))
  have BE1 := Lib.hid (blk_alloc (blk_below HE0.out hb1) (.cells #[v1] RDRT))
  have TE1 := Lib.hid (tyB_alloc (tyB_call HTE0.out hb1) (.cells #[v1] RDRT))
  have GB1 := Lib.hid (b_alloc (b_call HB0.out hb1) (.cells #[v1] RDRT))
  clear hr1 hown hb1
  subst hv1
  go_wp2_with fail
  refine (rprog_any w1.heap.size xs _ RS HBY.out HL.out).mono ?_
  intro e w2 h2
  cases hR : rdProg xs with
  | none =>
    obtain ⟨rfl, hg2⟩ := prEnd_none h2 hR
    have hne1 : some w.heap.size ≠ some w1.heap.size := by intro e; injection e with e; omega
    have hne2 : some (w.heap.size + 1) ≠ some w1.heap.size := by intro e; injection e with e; omega
    have BP2 := blk_grown BP1.out hg2 hne1
    have BE2 := blk_grown BE1.out hg2 hne2
    have GB2 : Below w.heap.size w w2 := b_grown GB1.out hg2 (by omega)
    have HR := Lib.hid hR
    clear h2 hg2 hR RS hne1 hne2
    go_wp2_with fail
    refine leaves_cons (f := 52) (args := #[.pointer (some ⟨w.heap.size, 0, none⟩), .pointer (some ⟨w.heap.size + 1, 0, none⟩)]) (by simp) (by simp [go_sem]) ?_
    refine (catch_fell w.heap.size (w.heap.size + 1) _ _ _ _ _ 0 BP2 BE2 (by omega) w.heap.size (Nat.le_refl _) (by omega)).mono ?_
    rintro e u' w'' ⟨rfl, rfl, ⟨B1, B2⟩, hB⟩
    obtain ⟨c0, c1, c2, c3, _⟩ := blk4 B1
    obtain ⟨d0, _⟩ := blk1 B2
    have hfin : ReadEnd none w (.returned (.tuple #[aggP prV0, .int .i64 4])) w'' := ⟨rfl, GB2.trans hB⟩
    simp [Leaves, settle, results, Try.results32, go_sem, c0, c1, c2, c3, d0]
    exact hfin
  | some P =>
    obtain ⟨q, rfl, hm, hg2⟩ := prEnd_some h2 hR
    obtain ⟨qu, ⟨qa, qn, qc⟩, qm, ⟨fa, fn, fc⟩⟩ := q
    have hne1 : some w.heap.size ≠ some w1.heap.size := by intro e; injection e with e; omega
    have hne2 : some (w.heap.size + 1) ≠ some w1.heap.size := by intro e; injection e with e; omega
    have BP2 := blk_grown BP1.out hg2 hne1
    have BE2 := blk_grown BE1.out hg2 hne2
    have TP2 := tyB_grown TP1.out hg2 hne1
    have TE2 := tyB_grown TE1.out hg2 hne2
    have GB2 : Below w.heap.size w w2 := b_grown GB1.out hg2 (by omega)
    have HR := Lib.hid hR
    have HM := Lib.hid hm
    obtain ⟨c0, c1, c2, c3, cf⟩ := blk4 BP2
    obtain ⟨d0, df⟩ := blk1 BE2
    have HBP := Lib.hid BP2
    have HBE := Lib.hid BE2
    have HGB := Lib.hid GB2
    have lp := BP2.1
    have le := BE2.1
    clear h2 hg2 hR RS hm hne1 hne2 BP2 BE2 GB2
    unfold aggP Sl.v
    simp only
    go_wp2_with fail
    refine leaves_cons (f := 52) (args := #[.pointer (some ⟨w.heap.size, 0, none⟩), .pointer (some ⟨w.heap.size + 1, 0, none⟩)]) (by simp) (by simp [go_sem]) ?_
    refine (catch_idle ⟨w.heap.size, 0, none⟩ ⟨w.heap.size + 1, 0, none⟩ _).mono ?_
    rintro e u' w'' ⟨rfl, rfl, rfl⟩
    have hneE : ¬ w.heap.size = w.heap.size + 1 := by omega
    have BP3 := blk_other (p := ⟨w.heap.size + 1, 0, none⟩) (blk_set (blk_set (blk_set (blk_set HBP.out 0 (.bool qu)) 1 (.slice qa qn qc)) 2 (.int .i64 qm)) 3 (.slice fa fn fc)) (by simp only; omega) (.int .i64 0)
    have BE3 := blk_set (blk_other (p := ⟨w.heap.size, 3, none⟩) (blk_other (p := ⟨w.heap.size, 2, none⟩) (blk_other (p := ⟨w.heap.size, 1, none⟩) (blk_other (p := ⟨w.heap.size, 0, none⟩) HBE.out hneE (.bool qu)) hneE (.slice qa qn qc)) hneE (.int .i64 qm)) hneE (.slice fa fn fc)) 0 (.int .i64 0)
    have G4 := gb_set (gb_set (gb_set (gb_set (gb_refl w2 (some w.heap.size)) 0 none (.bool qu)) 1 none (.slice qa qn qc)) 2 none (.int .i64 qm)) 3 none (.slice fa fn fc)
    have M4 := madeP_grown HM.out G4 (by simp only [World.size_alloc]; omega) TP2 (by decide) (by decide)
    have TE4 : tyB ((((w2.setCell ⟨w.heap.size, 0, none⟩ (.bool qu)).setCell ⟨w.heap.size, 1, none⟩ (.slice qa qn qc)).setCell ⟨w.heap.size, 2, none⟩ (.int .i64 qm)).setCell ⟨w.heap.size, 3, none⟩ (.slice fa fn fc)) (w.heap.size + 1) = some ERRT := by rw [tyB_set, tyB_set, tyB_set, tyB_set]; exact TE2
    have M5 := madeP_grown M4 (gb_set (gb_refl _ (some (w.heap.size + 1))) 0 none (.int .i64 0)) (by simp only [World.size_alloc]; omega) TE4 (by decide) (by decide)
    have B5 : Below w.heap.size w (((((w2.setCell ⟨w.heap.size, 0, none⟩ (.bool qu)).setCell ⟨w.heap.size, 1, none⟩ (.slice qa qn qc)).setCell ⟨w.heap.size, 2, none⟩ (.int .i64 qm)).setCell ⟨w.heap.size, 3, none⟩ (.slice fa fn fc)).setCell ⟨w.heap.size + 1, 0, none⟩ (.int .i64 0)) :=
      b_set (b_set (b_set (b_set (b_set HGB.out (Nat.le_refl _) _) (Nat.le_refl _) _) (Nat.le_refl _) _) (Nat.le_refl _) _) (by simp only; omega) _
    have hsB : w.heap.size ≤ (w1.alloc (.cells #[.slice va xs.length vc] RDRT)).heap.size := by simp only [World.size_alloc]; omega
    have hfin : ReadEnd (some P) w (.returned (.tuple #[aggP ⟨qu, ⟨qa, qn, qc⟩, qm, ⟨fa, fn, fc⟩⟩, .int .i64 0])) (((((w2.setCell ⟨w.heap.size, 0, none⟩ (.bool qu)).setCell ⟨w.heap.size, 1, none⟩ (.slice qa qn qc)).setCell ⟨w.heap.size, 2, none⟩ (.int .i64 qm)).setCell ⟨w.heap.size, 3, none⟩ (.slice fa fn fc)).setCell ⟨w.heap.size + 1, 0, none⟩ (.int .i64 0)) :=
      ⟨_, rfl, madeP_mono M5 hsB, B5⟩
    clear M4 M5 TE4 G4 B5 c0 c1 c2 c3 cf d0 df
    generalize (((((w2.setCell ⟨w.heap.size, 0, none⟩ (.bool qu)).setCell ⟨w.heap.size, 1, none⟩ (.slice qa qn qc)).setCell ⟨w.heap.size, 2, none⟩ (.int .i64 qm)).setCell ⟨w.heap.size, 3, none⟩ (.slice fa fn fc)).setCell ⟨w.heap.size + 1, 0, none⟩ (.int .i64 0)) = wF at *
    obtain ⟨c0, c1, c2, c3, _⟩ := blk4 BP3
    obtain ⟨d0, _⟩ := blk1 BE3
    have c0 : wF.cell? ⟨w.heap.size, 0, none⟩ = some (.bool qu) := c0
    have c1 : wF.cell? ⟨w.heap.size, 1, none⟩ = some (.slice qa qn qc) := c1
    have c2 : wF.cell? ⟨w.heap.size, 2, none⟩ = some (.int .i64 qm) := c2
    have c3 : wF.cell? ⟨w.heap.size, 3, none⟩ = some (.slice fa fn fc) := c3
    simp [Leaves, settle, results, Try.results32, go_sem, c0, c1, c2, c3, d0]
    rw [HR.out]
    exact hfin
end Go.Proofs.Ytdhkemnebppkhaa
