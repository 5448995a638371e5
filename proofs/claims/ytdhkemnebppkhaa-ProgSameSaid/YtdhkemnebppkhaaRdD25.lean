/- Layer 25: what Read defers; bytes copied. Conditions: those stated. -/
import Derived.Test.YtdhkemnebppkhaaRd25
import Derived.Defers
import Derived.Recover
import Derived.Laws.Pointers
namespace Go.Proofs.Ytdhkemnebppkhaa
open Go.RowKit
set_option linter.unusedVariables false
set_option linter.unusedSimpArgs false
theorem catch_idle (p q : Addr) (w : World) :
    CallsD Try.prog 52 #[.pointer (some p), .pointer (some q)] .returning w fun e u' w' => e = .returned (.tuple #[]) ∧ u' = .returning ∧ w' = w := by
  refine callsD_of_wpS Try.func52 rfl fun c₀ cs hu => ?_
  apply wpS_seq
  apply wpS_region
  simp [wpOpsS, go_sem, recoverD, hu, Try.ntmps52, Exit.thenS]
  apply wpS_seq
  apply wpS_seq
  apply wpS_region
  simp [wpOpsS, go_sem, Exit.thenS]
  refine wpS_cond (t := true) (by simp [Act.eval, Array.replicate]) ?_
  simp only [if_true]
  refine wpS_of_wp (wp_ret ?_)
  cases c₀
  simp_all [bodyPostS, results, Try.results52, Exit.thenS]
set_option maxRecDepth 100000 in
theorem catch_fell (pb qb : Nat) (u0 u1 u2 u3 : Value) (w : World) (n : Int) (hp : Blk w pb [u0, u1, u2, u3]) (hq : Blk w qb [.int .i64 n]) (hne : pb ≠ qb) (B : Nat) (hB : B ≤ pb) (hB' : B ≤ qb) :
    CallsD Try.prog 52 #[.pointer (some ⟨pb, 0, none⟩), .pointer (some ⟨qb, 0, none⟩)] (.panicking [{ v := .iface WRT (.agg #[]), recovered := false }]) w fun e u' w' => e = .returned (.tuple #[]) ∧ u' = .panicking [{ v := .iface WRT (.agg #[]), recovered := true }] ∧ (Blk w' pb [.bool false, .slice none 0 0, .int .i64 0, .slice none 0 0] ∧ Blk w' qb [.int .i64 4]) ∧ Below B w w' := by
  obtain ⟨c0, c1, c2, c3, cf⟩ := blk4 hp
  obtain ⟨d0, df⟩ := blk1 hq
  have hne' : ¬ qb = pb := fun e => hne e.symm
  have lp := hp.1
  have lq := hq.1
  have HP := Lib.hid hp
  have HQ := Lib.hid hq
  clear hp hq
  refine callsD_of_wpS Try.func52 rfl fun c₀ cs hu => ?_
  apply wpS_seq
  apply wpS_region
  simp [wpOpsS, go_sem, recoverD, hu, Try.ntmps52, Exit.thenS]
  apply wpS_seq
  apply wpS_seq
  apply wpS_region
  simp [wpOpsS, go_sem, Exit.thenS]
  refine wpS_cond (t := false) (by simp [Act.eval, Array.replicate]) ?_
  simp only [Bool.false_eq_true, if_false]
  refine wpS_of_wp (wp_skip ?_)
  simp only [Exit.thenS]
  refine wpS_of_wp ?_
  change Code.wp Try.prog _ _ ⟨#[.pointer (some ⟨pb, 0, none⟩), .pointer (some ⟨qb, 0, none⟩), .iface WRT (.agg #[]), undef, undef, .iface WRT (.agg #[]), .iface WRT (.agg #[]), .bool false, undef, undef, undef, undef, undef, undef, undef, undef, undef], []⟩ w
  have hta : ∀ w, (Instr.typeAssert (.iface WRT (.agg #[])) 20 93 true).run Try.prog w = .ok (.tuple #[.agg #[], .bool true]) w := fun _ => by kernel_rfl
  go_wp2_with fail
  have q1 := blk_set (blk_set (blk_set (blk_set HP.out 0 (.bool false)) 1 (.slice none 0 0)) 2 (.int .i64 0)) 3 (.slice none 0 0)
  have q2 := blk_other (p := ⟨pb, 3, none⟩) (blk_other (p := ⟨pb, 2, none⟩) (blk_other (p := ⟨pb, 1, none⟩) (blk_other (p := ⟨pb, 0, none⟩) HQ.out hne (.bool false)) hne (.slice none 0 0)) hne (.int .i64 0)) hne (.slice none 0 0)
  have p1 := blk_alloc (blk_other (p := ⟨qb, 0, none⟩) q1 (fun e => hne e.symm) (.int .i64 4)) (.cells #[] 93)
  have p2 := blk_alloc (blk_set q2 0 (.int .i64 4)) (.cells #[] 93)
  have p3 : Below B w ((((((w.setCell ⟨pb, 0, none⟩ (.bool false)).setCell ⟨pb, 1, none⟩ (.slice none 0 0)).setCell ⟨pb, 2, none⟩ (.int .i64 0)).setCell ⟨pb, 3, none⟩ (.slice none 0 0)).setCell ⟨qb, 0, none⟩ (.int .i64 4)).alloc (.cells #[] 93)) :=
    ((((((Below.refl B w).setCell (p := ⟨pb, 0, none⟩) hB _).setCell (p := ⟨pb, 1, none⟩) hB _).setCell (p := ⟨pb, 2, none⟩) hB _).setCell (p := ⟨pb, 3, none⟩) hB _).setCell (p := ⟨qb, 0, none⟩) hB' _).alloc (by simp; omega) _
  refine ⟨rfl, _, rfl, .tuple #[], ?_, ?_⟩
  · simp [results, Try.results52, go_sem]
  · exact ⟨rfl, rfl, ⟨p1, p2⟩, p3⟩
set_option maxRecDepth 100000 in
theorem bclone_any (u : Value) (xs : List Int) (w : World) (h : ReadB w u xs) (hl : xs.length ≤ 274877906944) : Calls Try.prog 53 #[u] w fun e w' => ∃ v, e = .returned v ∧ ReadB w' v xs ∧ (∀ k, v.ownBlock = some k → w.heap.size ≤ k ∧ k < w'.heap.size) ∧ Below w.heap.size w w' := by
  obtain ⟨a, cap, rfl⟩ := readB_len h
  have HL := Lib.hid hl
  clear hl
  cases a with
  | none =>
    obtain ⟨a', cap', e, h1, h2, h3, h4⟩ := h
    injection e with e1 e2 e3
    subst e1; subst e3
    have hc := h3 rfl
    subst hc
    have hx : xs = [] := List.eq_nil_of_length_eq_zero (by omega)
    subst hx
    clear h1 h2 h3 h4
    have t0 := fun (w : World) => Lib.run_eql_slice_nil (P := Try.prog) w 37 5 none 0 0 0 0 Try.underlying37
    go_enter Try.func53, Try.ntmps53
    go_wp2_with fail
    go_ret
    exact ⟨_, rfl, readB_nil _, (fun k hk => by cases hk), Below.refl _ _⟩
  | some a =>
    have H := Lib.hid h
    clear h
    have HO : Hid (OwnB (w.alloc (.cells #[] 5)) w.heap.size (.slice (some ⟨w.heap.size, 0, none⟩) 0 0) []) := own_emptyB (Nat.le_refl _)
    have t0 := fun (w : World) => Lib.run_eql_slice_nil (P := Try.prog) w 37 5 (some a) xs.length cap 0 0 Try.underlying37
    go_enter Try.func53, Try.ntmps53
    go_wp2_with (at_builtin; (refine appendB rfl _ _ rfl w.heap.size _ _ rfl HO.out _ xs rfl (readB_below H.out (b_alloc (Below.refl _ _) _)) ?c1 ?c2 ?_); (case c1 => (have := HL.out; simp only [List.length_nil]; omega)); (case c2 => (simp only [World.size_alloc]; omega)); intro v1 w1 own1 hg1; have hb1 := b_ownB (b_alloc (Below.refl _ _) _) HO.out hg1)
    go_ret
    exact ⟨_, rfl, ownB_read (by simpa using own1), fun k hk => ownB_lt own1 k hk, hb1⟩
end Go.Proofs.Ytdhkemnebppkhaa
