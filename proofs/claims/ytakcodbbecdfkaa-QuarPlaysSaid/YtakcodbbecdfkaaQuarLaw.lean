/- The example of chapter 11, and QuarNil's walk. No conditions. -/
import Derived.Test.YtakcodbbecdfkaaQuarRef
namespace Go.Proofs.Ytakcodbbecdfkaa
open Go.RowKit
set_option linter.unusedVariables false
set_option linter.unusedSimpArgs false
theorem ql_kept {w w' : World} {b m : Nat} {xs : List Int} (h : QL w b m xs) {r : Option Nat} (hg : w.grownBy w' r) (hne : r ≠ some b) : QL w' b m xs := by
  obtain ⟨R, f, hq, h'⟩ := h
  have hb : w'.heap[b]? = w.heap[b]? := hg.block b hq.lt (fun e => hne e.symm)
  have hc : ∀ i, w'.cell? ⟨b, i, none⟩ = w.cell? ⟨b, i, none⟩ := fun i => World.cell?_of_block (w := w) hb
  exact ⟨R, f, ⟨fun i hi => (hc i).trans (hq.ring i hi), (hc 65).trans hq.fr, (hc 66).trans hq.cn, (hc 67).trans hq.ms, fun i => (World.frozen?_of_block (w := w) hb).trans (hq.free i), Nat.lt_of_lt_of_le hq.lt hg.size⟩, h'⟩
theorem ql_lt {w : World} {b m : Nat} {xs : List Int} (h : QL w b m xs) : b < w.heap.size := by obtain ⟨R, f, hq, _⟩ := h; exact hq.lt
theorem b_gb {W w w' : World} {b : Nat} (h : Below W.heap.size W w) (hg : w.grownBy w' (some b)) (hb : W.heap.size ≤ b) : Below W.heap.size W w' := b_grown h hg hb
theorem awake11_any (w : World) : Calls Try.prog 29 #[] w fun e w' => e = .returned (.bool true) ∧ Below w.heap.size w w' := by
  have o3 : putO 2 [16, 32] 48 = 16 := by decide
  have p3 : putB 2 [16, 32] = true := by decide
  go_enter Try.func29, Try.ntmps29
  go_wp2_with fail
  refine (qnew_any _ _).mono ?_
  rintro e w1 ⟨rfl, q1, b1⟩
  replace q1 : QL w1 w.heap.size 2 [] := q1
  go_wp2_with fail
  refine (qput_any _ _ _ _ _ q1).mono ?_
  rintro e w2 ⟨rfl, q2, g2⟩
  replace q2 : QL w2 w.heap.size 2 [16] := q2
  go_wp2_with fail
  refine (qput_any _ _ _ _ _ q2).mono ?_
  rintro e w3 ⟨rfl, q3, g3⟩
  replace q3 : QL w3 w.heap.size 2 [16, 32] := q3
  go_wp2_with fail
  refine (qput_any _ _ _ _ _ q3).mono ?_
  rintro e w4 ⟨rfl, q4, g4⟩
  replace q4 : QL w4 w.heap.size 2 [32, 48] := q4
  go_wp2_with fail
  refine (qlen_list _ _ _ _ q4).mono ?_
  rintro e w5 ⟨rfl, rfl⟩
  go_wp2
  go_ret
  exact ⟨rfl, b_gb (b_gb (b_gb b1 g2 (Nat.le_refl _)) g3 (Nat.le_refl _)) g4 (Nat.le_refl _)⟩
theorem qlen_nil (w : World) : Calls Try.prog 25 #[.pointer none] w fun e w' => e = .returned (.int .i64 0) ∧ w = w' := by
  go_enter Try.func25, Try.ntmps25
  go_wp2
  go_ret
  exact ⟨rfl, rfl⟩
theorem qput_nil (x : Int) (w : World) : Calls Try.prog 24 #[.pointer none, .int .i64 x] w fun e w' => e = .returned (.tuple #[.int .i64 0, .bool false]) ∧ w = w' := by
  go_enter Try.func24, Try.ntmps24
  go_wp2
  go_ret2
  exact ⟨rfl, rfl⟩
theorem qtake_nil (w : World) : Calls Try.prog 27 #[.pointer none] w fun e w' => e = .returned (.tuple #[.int .i64 0, .bool false]) ∧ w = w' := by
  go_enter Try.func27, Try.ntmps27
  go_wp2_with fail
  refine (qlen_nil _).mono ?_
  rintro e w5 ⟨rfl, rfl⟩
  go_wp2
  go_ret2
  exact ⟨rfl, rfl⟩
theorem qall_nil (w : World) : Calls Try.prog 44 #[.pointer none] w fun e w' => e = .returned (.slice none 0 0) ∧ w = w' := by
  go_enter Try.func44, Try.ntmps44
  go_wp2_with fail
  refine (qlen_nil _).mono ?_
  rintro e w5 ⟨rfl, rfl⟩
  go_wp2_with fail
  go_loop [3, 7] (fun v i => v = .slice none 0 0 ∧ i = .int .i64 0) (fun _ _ => 0)
  case atStart => exact ⟨rfl, rfl⟩
  case round =>
    obtain ⟨rfl, rfl⟩ := hrel
    go_wp2
    go_ret
    exact ⟨rfl, rfl⟩
theorem qhas_nil (x : Int) (w : World) : Calls Try.prog 43 #[.pointer none, .int .i64 x] w fun e w' => e = .returned (.bool false) ∧ w = w' := by
  go_enter Try.func43, Try.ntmps43
  go_wp2_with fail
  refine (qall_nil _).mono ?_
  rintro e w5 ⟨rfl, rfl⟩
  go_wp2_with fail
  refine (scon_any _ [] x _ (readI_nil _)).mono ?_
  rintro e w5 ⟨rfl, rfl⟩
  go_wp2
  go_ret
  exact ⟨rfl, rfl⟩
theorem quarNil_any (x : Int) (w : World) : Calls Try.prog 14 #[.int .i64 x] w fun e w' => e = .returned (.bool true) ∧ Below w.heap.size w w' := by
  go_enter Try.func14, Try.ntmps14
  go_wp2_with (first | (go_at_call 24; refine (qput_nil _ _).mono ?_; rintro e w5 ⟨rfl, rfl⟩) | (go_at_call 27; refine (qtake_nil _).mono ?_; rintro e w5 ⟨rfl, rfl⟩) | (go_at_call 43; refine (qhas_nil _ _).mono ?_; rintro e w5 ⟨rfl, rfl⟩) | (go_at_call 25; refine (qlen_nil _).mono ?_; rintro e w5 ⟨rfl, rfl⟩) | (go_at_call 44; refine (qall_nil _).mono ?_; rintro e w5 ⟨rfl, rfl⟩) | (go_at_call 29; refine (awake11_any _).mono ?_; rintro e w6 ⟨rfl, hb⟩))
  go_ret
  exact ⟨rfl, hb⟩
end Go.Proofs.Ytakcodbbecdfkaa
