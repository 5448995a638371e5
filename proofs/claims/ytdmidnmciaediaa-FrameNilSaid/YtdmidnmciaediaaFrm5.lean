/- Layer 28: the contracts of local and Local; comparing values; chapter 28's example. Conditions: those stated. -/
import Derived.Test.YtdmidnmciaediaaFrm4
import Derived.Test.YtdmidnmciaediaaProgT
import Derived.Laws.StructEq
namespace Go.Proofs.Ytdmidnmciaediaa
open Go.RowKit
set_option linter.unusedVariables false
set_option linter.unusedSimpArgs false
attribute [local go_sem] over_cell over_frozen
variable {w0 w w' : World} {s : Nat} {p : PrV} {P : PrM} {lv : Sl} {ds : List FrD} {L : List FrM} {d : FrD} {m : FrM}
theorem eqVal (k1 b1 k2 b2 : Int) (w : World) : (binOp .eql 41 (.agg #[.int .i64 k1, .int .u64 b1]) (.agg #[.int .i64 k2, .int .u64 b2])).run Try.prog w = .ok (.bool (k1 == k2 && b1 == b2)) w := by
  have hS : Try.prog.underlying 41 = some (.struct (Try.prog.fieldsOf 41)) := by kernel_rfl
  have hp : Try.prog.stoodInHeld 41 = false := by kernel_rfl
  rw [run_eql_struct, show (10000 : Nat) = 9999 + 1 from rfl, run_equalIn_agg w 9999 _ _ _ hS hp]
  simp only [Program.fieldsOf, Try.underlying41]
  go_simp
  by_cases h1 : k1 = k2 <;> by_cases h2 : b1 = b2 <;> simp [h1, h2]
theorem neqVal (k1 b1 k2 b2 : Int) (w : World) : (binOp .neq 41 (.agg #[.int .i64 k1, .int .u64 b1]) (.agg #[.int .i64 k2, .int .u64 b2])).run Try.prog w = .ok (.bool (!(k1 == k2 && b1 == b2))) w := by
  have hS : Try.prog.underlying 41 = some (.struct (Try.prog.fieldsOf 41)) := by kernel_rfl
  have hp : Try.prog.stoodInHeld 41 = false := by kernel_rfl
  rw [run_neq_struct, show (10000 : Nat) = 9999 + 1 from rfl, run_equalIn_agg w 9999 _ _ _ hS hp]
  simp only [Program.fieldsOf, Try.underlying41]
  go_simp
  by_cases h1 : k1 = k2 <;> by_cases h2 : b1 = b2 <;> simp [h1, h2]
theorem guardVal (op : BinOp) (a b : Operand) (xs ys : Array Value) (w : World) : Sem.run Try.prog (eqGuard op 41 a b (.agg xs) (.agg ys)) w = .ok () w := run_eqGuard_agg w op _ a b xs ys (by kernel_rfl)
theorem flo_nil (k : Int) (w : World) : Calls Try.prog 76 #[.pointer none, .int .i64 k] w fun e w' => e = .returned (.tuple #[.pointer none, .int .i64 2]) ∧ w = w' := by
  go_enter Try.func76, Try.ntmps76
  go_wp2_with fail
  refine (ftop_nil _).mono ?_
  rintro e w1 ⟨rfl, rfl⟩
  go_wp2_with fail
  go_ret2
  exact ⟨rfl, rfl⟩
theorem flo_none (h : FrsAt w0 w s p lv ds []) (k : Int) : Calls Try.prog 76 #[fp s, .int .i64 k] w fun e w' => e = .returned (.tuple #[.pointer none, .int .i64 6]) ∧ w = w' := by
  have HT := Lib.hid (ftop_none h)
  unfold fp at *
  clear h
  go_enter Try.func76, Try.ntmps76
  go_wp2_with fail
  refine HT.out.mono ?_
  rintro e w1 ⟨rfl, rfl⟩
  go_wp2_with fail
  go_ret2
  exact ⟨rfl, rfl⟩
theorem flo_out (h : FrsAt w0 w s p lv (ds ++ [d]) (L ++ [m])) (k : Int) (hk : ¬ (0 ≤ k ∧ k < m.loc.length)) : Calls Try.prog 76 #[fp s, .int .i64 k] w fun e w' => e = .returned (.tuple #[.pointer none, .int .i64 3]) ∧ w = w' := by
  have HT := Lib.hid (ftop_any h)
  obtain ⟨_, _, c2, _, _⟩ := fr_cells (frs_ok h)
  have hl := (own_sl (frs_ok h).l).2
  have hcap := cap_le hl.2
  have hlc := hl.1
  unfold fp at *
  clear h hl
  rcases (show k < 0 ∨ (0 ≤ k ∧ (m.loc.length : Int) ≤ k) by omega) with q | ⟨q1, q2⟩
  · go_enter Try.func76, Try.ntmps76
    go_wp2_with fail
    refine HT.out.mono ?_
    rintro e w1 ⟨rfl, rfl⟩
    go_wp2_with fail
    go_ret2
    exact ⟨rfl, rfl⟩
  · have q3 : ¬ (k < m.loc.length) := by omega
    go_enter Try.func76, Try.ntmps76
    go_wp2_with fail
    refine HT.out.mono ?_
    rintro e w1 ⟨rfl, rfl⟩
    go_wp2_with fail
    go_ret2
    exact ⟨rfl, rfl⟩
theorem flo_any (h : FrsAt w0 w s p lv (ds ++ [d]) (L ++ [m])) (k : Nat) (hk : k < m.loc.length) : Calls Try.prog 76 #[fp s, .int .i64 k] w fun e w' => e = .returned (.tuple #[fp d.b, .int .i64 0]) ∧ w = w' := by
  have HT := Lib.hid (ftop_any h)
  obtain ⟨_, _, c2, _, _⟩ := fr_cells (frs_ok h)
  have hl := (own_sl (frs_ok h).l).2
  have hcap := cap_le hl.2
  have hlc := hl.1
  have k0 : (0 : Int) ≤ k := by omega
  have k1 : (k : Int) < m.loc.length := by omega
  unfold fp at *
  clear h hl hk
  go_enter Try.func76, Try.ntmps76
  go_wp2_with fail
  refine HT.out.mono ?_
  rintro e w1 ⟨rfl, rfl⟩
  go_wp2_with fail
  go_ret2
  exact ⟨rfl, rfl⟩
theorem flocal_nil (k : Int) (w : World) : Calls Try.prog 35 #[.pointer none, .int .i64 k] w fun e w' => e = .returned (.tuple #[aggV ⟨0, 0⟩, .int .i64 2]) ∧ Below w.heap.size w w' := by
  unfold aggV
  go_enter Try.func35, Try.ntmps35
  go_wp2_with fail
  refine (flo_nil _ _).mono ?_
  rintro e w1 ⟨rfl, rfl⟩
  go_wp2_with fail
  exact bodyPost_ret (v := .tuple #[.agg #[.int .i64 0, .int .u64 0], .int .i64 2]) (by simp [results, Try.results35, go_sem]) rfl ⟨rfl, by (repeat' (first | exact Below.refl _ _ | assumption | refine b_alloc ?_ _ | refine b_over ?_ _ | refine b_drew ?_ | refine b_call ?_ (by assumption)))⟩
theorem flocal_none (h : FrsAt w0 w s p lv ds []) (k : Int) : Calls Try.prog 35 #[fp s, .int .i64 k] w fun e w' => e = .returned (.tuple #[aggV ⟨0, 0⟩, .int .i64 6]) ∧ Below w.heap.size w w' := by
  have HT := Lib.hid (flo_none (frs_below h (b_alloc (Below.refl w.heap.size w) (.cells #[.int .i64 0, .int .u64 0] VALT))) k)
  clear h
  unfold aggV fp at *
  go_enter Try.func35, Try.ntmps35
  go_wp2_with fail
  refine HT.out.mono ?_
  rintro e w1 ⟨rfl, rfl⟩
  go_wp2_with fail
  exact bodyPost_ret (v := .tuple #[.agg #[.int .i64 0, .int .u64 0], .int .i64 6]) (by simp [results, Try.results35, go_sem]) rfl ⟨rfl, by (repeat' (first | exact Below.refl _ _ | assumption | refine b_alloc ?_ _ | refine b_over ?_ _ | refine b_drew ?_ | refine b_call ?_ (by assumption)))⟩
theorem flocal_out (h : FrsAt w0 w s p lv (ds ++ [d]) (L ++ [m])) (k : Int) (hk : ¬ (0 ≤ k ∧ k < m.loc.length)) : Calls Try.prog 35 #[fp s, .int .i64 k] w fun e w' => e = .returned (.tuple #[aggV ⟨0, 0⟩, .int .i64 3]) ∧ Below w.heap.size w w' := by
  have HT := Lib.hid (flo_out (frs_below h (b_alloc (Below.refl w.heap.size w) (.cells #[.int .i64 0, .int .u64 0] VALT))) k hk)
  clear h
  unfold aggV fp at *
  go_enter Try.func35, Try.ntmps35
  go_wp2_with fail
  refine HT.out.mono ?_
  rintro e w1 ⟨rfl, rfl⟩
  go_wp2_with fail
  exact bodyPost_ret (v := .tuple #[.agg #[.int .i64 0, .int .u64 0], .int .i64 3]) (by simp [results, Try.results35, go_sem]) rfl ⟨rfl, by (repeat' (first | exact Below.refl _ _ | assumption | refine b_alloc ?_ _ | refine b_over ?_ _ | refine b_drew ?_ | refine b_call ?_ (by assumption)))⟩
/-- A row of values, one of them in memory. -/
theorem val_at {B : Nat} {sl : Sl} {M : List ValM} (h : OwnR valE VALT w B sl.v M) {k : Nat} (hk : k < M.length) : ∃ g, sl.a = some ⟨g, 0, none⟩ ∧ g < w.heap.size ∧ tyB w g = some VALT ∧ w.cell? ⟨g, k * 2, none⟩ = some (.int .i64 M[k].k) ∧ w.cell? ⟨g, k * 2 + 1, none⟩ = some (.int .u64 M[k].b) ∧ (∀ i, w.frozen? ⟨g, i, none⟩ = false) ∧ B ≤ g := by
  obtain ⟨g, cap, e, e6, hgl, _, hB, hb⟩ := ownR_form h (by omega)
  have ea : sl.a = some ⟨g, 0, none⟩ := by
    have e2 : Value.slice sl.a sl.n sl.c = .slice (some ⟨g, 0, none⟩) M.length cap := e
    injection e2
  have ho : sl.v.ownBlock = some g := by unfold Sl.v; rw [ea]; rfl
  have hn := own_sl h
  have hr := readR_blk (c := valE) hb (Nat.le_refl _) (Nat.le_trans hn.2.1 hn.2.2)
  obtain ⟨b', o, c', e5, _, _, _, h9⟩ := valR_pos hr (by omega)
  cases e5
  obtain ⟨v0, v1⟩ := h9 k hk
  simp only [Nat.zero_add] at v0 v1
  exact ⟨g, ea, (ownR_lt h g ho).2, ownR_ty h g ho, v0, v1, hb.2.2, (ownR_lt h g ho).1⟩
theorem flocal_any (h : FrsAt w0 w s p lv (ds ++ [d]) (L ++ [m])) (k : Nat) (hk : k < m.loc.length) : Calls Try.prog 35 #[fp s, .int .i64 k] w fun e w' => e = .returned (.tuple #[aggV m.loc[k], .int .i64 0]) ∧ Below w.heap.size w w' := by
  have h1 := frs_below h (b_alloc (Below.refl w.heap.size w) (.cells #[.int .i64 0, .int .u64 0] VALT))
  have HT := Lib.hid (flo_any h1 k hk)
  obtain ⟨_, _, c2, _, _⟩ := fr_cells (frs_ok h)
  obtain ⟨g, ea, hg, _, v0, v1, _, _⟩ := val_at (frs_ok h).l hk
  have hl := (own_sl (frs_ok h).l).2
  have hcap := cap_le hl.2
  have hlc := hl.1
  have k0 : (0 : Int) ≤ k := by omega
  have k1 : (k : Int) < m.loc.length := by omega
  have hdl := (frs_ok h).hd.1
  rw [ea] at c2
  generalize m.loc[k] = v at *
  obtain ⟨vk, vb⟩ := v
  simp only at v0 v1
  unfold aggV fp at *
  clear h h1 hl hk ea
  go_enter Try.func35, Try.ntmps35
  go_wp2_with fail
  refine HT.out.mono ?_
  rintro e w1 ⟨rfl, rfl⟩
  go_wp2_with fail
  exact bodyPost_ret (v := .tuple #[.agg #[.int .i64 vk, .int .u64 vb], .int .i64 0]) (by simp [results, Try.results35, go_sem]) rfl ⟨rfl, by (repeat' (first | exact Below.refl _ _ | assumption | refine b_alloc ?_ _ | refine b_over ?_ _ | refine b_drew ?_ | refine b_call ?_ (by assumption)))⟩
end Go.Proofs.Ytdmidnmciaediaa
