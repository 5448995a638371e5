/- Layer 17's 'step': what its arms share. No conditions beside those stated. -/
import Derived.Test.YtgbbnmjfkhconaaObj8
import Derived.Laws.StructEq
namespace Go.Proofs.Ytgbbnmjfkhconaa
open Go.RowKit
set_option linter.unusedVariables false
set_option linter.unusedSimpArgs false
/-- An arena and the document's row, alike. -/
structure PlO (w wr : World) (b g cap gr cr : Nat) (L : List Int) : Prop where
  a : AreAt wr b g cap L
  r : RowAt wr gr cr L
  ng : g ≠ gr
  nb : b ≠ gr
  lb : w.heap.size ≤ b
  lg : w.heap.size ≤ g
  lr : w.heap.size ≤ gr
  bw : Below w.heap.size w wr
theorem plo_below {w wr w' : World} {b g cap gr cr : Nat} {L : List Int} (h : PlO w wr b g cap gr cr L) (hb : Below wr.heap.size wr w') : PlO w w' b g cap gr cr L :=
  ⟨are_below h.a hb, row_below h.r hb, h.ng, h.nb, h.lb, h.lg, h.lr, b_call h.bw hb⟩
/-- The arena alone has turned; the document's row is a new one. -/
theorem plo_new {w wr w1 w2 : World} {b g cap gr cr g2 c2 : Nat} {L M : List Int} (h : PlO w wr b g cap gr cr L) (hg : wr.grownBy w1 (some g)) (A : AreAt w1 b g cap M) (hb : Below w1.heap.size w1 w2) (R : RowAt w2 g2 c2 M) (h2 : w1.heap.size ≤ g2) : PlO w w2 b g cap g2 c2 M := by
  have h3 := hg.size
  have h4 := A.rw.1
  have h5 := A.hd.1
  have h6 := h.bw.size
  exact ⟨are_below A hb, R, by omega, by omega, h.lb, h.lg, by omega, b_call (b_grown h.bw hg h.lg) hb⟩
/-- The arena has been written as it was. -/
theorem plo_same {w wr w1 : World} {b g cap gr cr : Nat} {L : List Int} (h : PlO w wr b g cap gr cr L) (hg : wr.grownBy w1 (some g)) (A : AreAt w1 b g cap L) : PlO w w1 b g cap gr cr L :=
  ⟨A, row_grown h.r hg (by intro e; injection e with e; exact h.ng e.symm), h.ng, h.nb, h.lb, h.lg, h.lr, b_grown h.bw hg h.lg⟩
/-- The document's row first, then the arena. -/
theorem plo_make {w wr w2 w3 w4 : World} {b g cap gr cr g1 c1 : Nat} {L M : List Int} (h : PlO w wr b g cap gr cr L) (hb2 : Below wr.heap.size wr w2) (R1 : RowAt w2 g1 c1 M) (hor : g1 = gr ∨ wr.heap.size ≤ g1) (hb3 : Below w2.heap.size w2 w3) (G : w3.grownBy w4 (some g)) (A : AreAt w4 b g cap M) : PlO w w4 b g cap g1 c1 M := by
  have h4 := h.a.rw.1
  have h5 := h.a.hd.1
  have h6 := h.bw.size
  have n1 : g ≠ g1 := by rcases hor with q | q <;> first | (rw [q]; exact h.ng) | omega
  have n2 : b ≠ g1 := by rcases hor with q | q <;> first | (rw [q]; exact h.nb) | omega
  have n3 : w.heap.size ≤ g1 := by rcases hor with q | q <;> first | (rw [q]; exact h.lr) | omega
  exact ⟨A, row_grown (row_below R1 hb3) G (by intro e; injection e with e; exact n1 e.symm), n1, n2, h.lb, h.lg, n3, b_grown (b_call (b_call h.bw hb2) hb3) G h.lg⟩
theorem srL_length (L : List Int) (a k t : Int) : (srL L a k t).length = L.length := by unfold srL; split <;> first | exact setW_length _ _ _ | rfl
theorem snL_length (L : List Int) (a k v : Int) : (snL L a k v).length = L.length := by unfold snL; split <;> first | exact setW_length _ _ _ | rfl
theorem mkL_length (L : List Int) (a r n : Int) : (mkL L a r n).length = L.length := by unfold mkL; split <;> first | (rw [setW_length, fillL_length]) | rfl
theorem o_blk7 {w : World} {g : Nat} {u0 u1 u2 u3 u4 u5 u6 : Value} (h : Blk w g [u0, u1, u2, u3, u4, u5, u6]) : w.cell? ⟨g, 0, none⟩ = some u0 ∧ w.cell? ⟨g, 1, none⟩ = some u1 ∧ w.cell? ⟨g, 2, none⟩ = some u2 ∧ w.cell? ⟨g, 3, none⟩ = some u3 ∧ w.cell? ⟨g, 4, none⟩ = some u4 ∧ w.cell? ⟨g, 5, none⟩ = some u5 ∧ w.cell? ⟨g, 6, none⟩ = some u6 ∧ ∀ i, w.frozen? ⟨g, i, none⟩ = false :=
  ⟨h.2.1 0 (by simp), h.2.1 1 (by simp), h.2.1 2 (by simp), h.2.1 3 (by simp), h.2.1 4 (by simp), h.2.1 5 (by simp), h.2.1 6 (by simp), h.2.2⟩
def opV (k a f t v r n : Int) : Value := .agg #[.int .i64 k, .int .i64 a, .int .i64 f, .int .i64 t, .int .u64 v, .int .i64 r, .int .i64 n]
def StepRet (w : World) (b g cap len : Nat) (e : Ending) (w' : World) : Prop := ∃ gr' cr' L', e = .returned (.tuple #[rowV gr' L' cr', .bool true]) ∧ PlO w w' b g cap gr' cr' L' ∧ L'.length = len
theorem eqShp (r n : Int) (w : World) : (binOp .eql 25 (.agg #[.int .i64 r, .int .i64 n]) (.agg #[.int .i64 r, .int .i64 n])).run Try.prog w = .ok (.bool true) w := by
  have hS : Try.prog.underlying 25 = some (.struct (Try.prog.fieldsOf 25)) := by kernel_rfl
  have hp : Try.prog.stoodInHeld 25 = false := by kernel_rfl
  rw [run_eql_struct, show (10000 : Nat) = 9999 + 1 from rfl, run_equalIn_agg w 9999 _ _ _ hS hp]
  simp only [Program.fieldsOf, Try.underlying25]
  go_simp
theorem guardShp (op : BinOp) (a b : Operand) (xs ys : Array Value) (w : World) : Sem.run Try.prog (eqGuard op 25 a b (.agg xs) (.agg ys)) w = .ok () w := run_eqGuard_agg w op _ a b xs ys (by kernel_rfl)
end Go.Proofs.Ytgbbnmjfkhconaa
