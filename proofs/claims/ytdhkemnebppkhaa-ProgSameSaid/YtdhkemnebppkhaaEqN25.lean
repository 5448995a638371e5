/- Layer 25: are two lists of instructions the same. Conditions: the lists are read as such. -/
import Derived.Test.YtdhkemnebppkhaaEq25
import Derived.Laws.StructEq
namespace Go.Proofs.Ytdhkemnebppkhaa
open Go.RowKit
set_option linter.unusedVariables false
set_option linter.unusedSimpArgs false
def sameIn (x y : In4) : Bool := x.op == y.op && (x.x == y.x && (x.a == y.a && x.b == y.b))
theorem neqIn (o1 x1 a1 b1 o2 x2 a2 b2 : Int) (w : World) : (binOp .neq 32 (.agg #[.int .i64 o1, .int .u64 x1, .int .i64 a1, .int .i64 b1]) (.agg #[.int .i64 o2, .int .u64 x2, .int .i64 a2, .int .i64 b2])).run Try.prog w = .ok (.bool (!(o1 == o2 && (x1 == x2 && (a1 == a2 && b1 == b2))))) w := by
  have hS : Try.prog.underlying 32 = some (.struct (Try.prog.fieldsOf 32)) := by kernel_rfl
  have hp : Try.prog.stoodInHeld 32 = false := by kernel_rfl
  rw [run_neq_struct, show (10000 : Nat) = 9999 + 1 from rfl, run_equalIn_agg w 9999 _ _ _ hS hp]
  simp only [Program.fieldsOf, Try.underlying32]
  go_simp
  by_cases h1 : o1 = o2 <;> by_cases h2 : x1 = x2 <;> by_cases h3 : a1 = a2 <;> by_cases h4 : b1 = b2 <;> simp [h1, h2, h3, h4]
theorem guardIn (op : BinOp) (a b : Operand) (xs ys : Array Value) (w : World) : Sem.run Try.prog (eqGuard op 32 a b (.agg xs) (.agg ys)) w = .ok () w := run_eqGuard_agg w op _ a b xs ys (by kernel_rfl)
theorem in4_ext {x y : In4} (h : (x.op == y.op && (x.x == y.x && (x.a == y.a && x.b == y.b))) = true) : x = y := by
  obtain ⟨a, b, c, d⟩ := x; obtain ⟨a', b', c', d'⟩ := y
  simp only [Bool.and_eq_true, beq_iff_eq] at h
  obtain ⟨rfl, rfl, rfl, rfl⟩ := h; rfl
set_option maxHeartbeats 2000000 in
theorem eqN_any (u v : Value) (xs ys : List In4) (w : World) (h : ReadR inE w u xs) (h' : ReadR inE w v ys) (hl : xs.length ≤ 274877906944) (hl' : ys.length ≤ 274877906944) :
    Calls Try.prog 60 #[u, v] w fun e w' => ∃ b, e = .returned (.bool b) ∧ (b = true ↔ xs = ys) ∧ Below w.heap.size w w' := by
  by_cases hn : xs.length = ys.length
  · by_cases h0 : 0 < xs.length
    · obtain ⟨b, o, cap, rfl, h1, h2, h3, h4⟩ := readR_pos h h0
      obtain ⟨b', o', cap', rfl, g1, g2, g3, g4⟩ := readR_pos h' (by omega)
      have t0 : ((xs.length : Int) != (ys.length : Int)) = false := by rw [hn]; simp
      have HN := Lib.hid hn
      have hn1 : xs.length ≤ ys.length := by omega
      have H4 := Lib.hid h4
      have G4 := Lib.hid g4
      clear h h' hn h4 g4
      go_enter Try.func60, Try.ntmps60
      go_wp2
      go_loopw [13] (fun i wr => ∃ k : Nat, k ≤ xs.length ∧ i = .int .i64 k ∧ Hid (xs.take k = ys.take k) ∧ Below w.heap.size w wr) (fun i _ => xs.length - (intOf i).toNat)
      case atStart => exact ⟨0, Nat.zero_le _, rfl, rfl, Below.refl _ _⟩
      case round =>
        obtain ⟨k, hk, rfl, hi, hb⟩ := hrel
        by_cases hlt : k < xs.length
        · have hlt' : k < ys.length := by omega
          have hc := in_cells H4.out k hlt
          have hd := in_cells G4.out k hlt'
          rw [← (bcell hb).1 _ _ h3, ← (bcell hb).1 _ _ h3, ← (bcell hb).1 _ _ h3, ← (bcell hb).1 _ _ h3] at hc
          rw [← (bcell hb).1 _ _ g3, ← (bcell hb).1 _ _ g3, ← (bcell hb).1 _ _ g3, ← (bcell hb).1 _ _ g3] at hd
          have HX : Hid (xs[k] = ys[k] → xs.take (k + 1) = ys.take (k + 1)) := fun e => by rw [List.take_succ_eq_append_getElem hlt, List.take_succ_eq_append_getElem hlt', hi.out, e]
          have HY : Hid (xs[k] ≠ ys[k] → xs ≠ ys) := fun e q => e (by subst q; rfl)
          have k1 : (k : Int) < xs.length := by omega
          have k2 : (k : Int) < ys.length := by omega
          have k0 : (0 : Int) ≤ k := by omega
          generalize xs[k] = x at *
          generalize ys[k] = y at *
          obtain ⟨x1, x2, x3, x4⟩ := x
          obtain ⟨y1, y2, y3, y4⟩ := y
          simp only at hc hd
          obtain ⟨c0, c1, c2, c3⟩ := hc
          obtain ⟨d0, d1, d2, d3⟩ := hd
          obtain ⟨q, hq⟩ : ∃ q, q = (x1 == y1 && (x2 == y2 && (x3 == y3 && x4 == y4))) := ⟨_, rfl⟩
          cases q
          · have t : (x1 == y1 && (x2 == y2 && (x3 == y3 && x4 == y4))) = false := hq.symm
            clear hq
            have hne' : ∀ w : World, (binOp .neq 32 (.agg #[.int .i64 x1, .int .u64 x2, .int .i64 x3, .int .i64 x4]) (.agg #[.int .i64 y1, .int .u64 y2, .int .i64 y3, .int .i64 y4])).run Try.prog w = .ok (.bool true) w := fun w => by rw [neqIn, t]; rfl
            have hgd' : ∀ (op : BinOp) (a b : Operand) (xs ys : Array Value) (w : World), Sem.run Try.prog (eqGuard op 32 a b (.agg xs) (.agg ys)) w = .ok () w := guardIn
            have T := Lib.hid t; clear t
            go_wp2_with fail
            go_quiet (fail)
            go_wp2
            go_ret
            refine ⟨_, rfl, ?_, b_drewN hb _⟩
            have hne := HY.out (by intro e; cases e; have t := T.out; simp at t)
            simp [hne]
          · have t : (x1 == y1 && (x2 == y2 && (x3 == y3 && x4 == y4))) = true := hq.symm
            clear hq
            have hne' : ∀ w : World, (binOp .neq 32 (.agg #[.int .i64 x1, .int .u64 x2, .int .i64 x3, .int .i64 x4]) (.agg #[.int .i64 y1, .int .u64 y2, .int .i64 y3, .int .i64 y4])).run Try.prog w = .ok (.bool false) w := fun w => by rw [neqIn, t]; rfl
            have hgd' : ∀ (op : BinOp) (a b : Operand) (xs ys : Array Value) (w : World), Sem.run Try.prog (eqGuard op 32 a b (.agg xs) (.agg ys)) w = .ok () w := guardIn
            have T := Lib.hid t; clear t
            go_wp2_with fail
            go_quiet (fail)
            go_wp2
            go_roundw
            case rel => exact ⟨k + 1, by omega, by first | rfl | trivial | go_num, HX.out (in4_ext T.out), b_drewN hb _⟩
            case measure => simp [intOf]; omega
        · go_wp2
          go_ret
          have he : xs = ys := by
            have q := hi.out
            rw [List.take_of_length_le (by omega), List.take_of_length_le (by have := HN.out; omega)] at q; exact q
          exact ⟨_, rfl, by simp [he], hb⟩
    · obtain ⟨a, cap, rfl, _⟩ := readR_len h
      obtain ⟨a', cap', rfl, _⟩ := readR_len h'
      have hx : xs = [] := List.eq_nil_of_length_eq_zero (by omega)
      have hy : ys = [] := List.eq_nil_of_length_eq_zero (by omega)
      subst hx; subst hy
      clear h h' hn h0
      go_enter Try.func60, Try.ntmps60
      go_wp2
      go_loopw [13] (fun i wr => i = .int .i64 0 ∧ Below w.heap.size w wr) (fun _ _ => 0)
      case atStart => exact ⟨rfl, Below.refl _ _⟩
      case round =>
        obtain ⟨rfl, hb⟩ := hrel
        go_wp2
        go_ret
        exact ⟨_, rfl, by simp, hb⟩
  · obtain ⟨a, cap, rfl, _⟩ := readR_len h
    obtain ⟨a', cap', rfl, _⟩ := readR_len h'
    have t0 : ((xs.length : Int) != (ys.length : Int)) = true := by rw [bne_iff_ne]; omega
    have hne : xs ≠ ys := fun e => hn (by rw [e])
    have HN := Lib.hid hne
    clear hn h h'
    go_enter Try.func60, Try.ntmps60
    go_wp2_with fail
    go_ret
    exact ⟨_, rfl, by simp [HN.out], Below.refl _ _⟩
end Go.Proofs.Ytdhkemnebppkhaa
