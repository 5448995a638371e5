/- Layer 4: the chapter's example; a table that is not there. No conditions. -/
import Derived.Test.YtfbdnjmljdfjjaaPageZ
namespace Go.Proofs.Ytfbdnjmljdfjjaa
open Go.RowKit
set_option linter.unusedVariables false
set_option linter.unusedSimpArgs false
attribute [local go_sem] over_cell over_frozen field_k field_n
def L4 : List Row4 := List.replicate 4 zr
def r22 : Row4 := ⟨2, 0, 0, 2⟩
theorem place4 : IsPlace L4 1 4 r22.n.toNat ((1 : Nat) : Int) := by
  refine Or.inr ⟨1, rfl, ⟨by decide, by decide, by decide, fun i a b => ?_⟩, fun j hj hf => ?_⟩
  · have : i = 1 ∨ i = 2 := by have : r22.n.toNat = 2 := rfl; omega
    rcases this with rfl | rfl <;> rfl
  · have := hf.2.1; omega
theorem long4 : IsLong (laid L4 1 r22) 0 4 1 := by
  have e : laid L4 1 r22 = [zr, r22, tl, zr] := rfl
  rw [e]
  refine ⟨Or.inr ⟨0, by decide, by decide, by decide, fun i a b => ?_⟩, fun k hk => ?_⟩
  · have : i = 0 := by omega
    subst this; rfl
  · have h1 := hk.1
    simp only [List.length_cons, List.length_nil] at h1
    have : k = 0 ∨ k = 1 ∨ k = 2 := by omega
    rcases this with rfl | rfl | rfl
    · have := hk.2.2.2 1 (by omega) (by omega); cases this
    · have := hk.2.2.2 1 (by omega) (by omega); cases this
    · have := hk.2.2.2 2 (by omega) (by omega); cases this
theorem awake4_any (w : World) : Calls Try.prog 14 #[] w fun e w' => e = .returned (.bool true) ∧ Below w.heap.size w w' := by
  have H1 := Lib.hid (tnew_any 4)
  go_enter Try.func14, Try.ntmps14
  go_wp2_with fail
  refine (H1.out _).mono ?_
  rintro e w1 ⟨b, g, cap, rfl, T1, hb, hg, B1⟩
  replace T1 : TabAt w1 b g cap L4 := T1
  have HM := Lib.hid (tmap_ok T1 1 4 r22 1 (by decide) place4)
  clear T1 H1
  unfold tp agg4 at *
  go_wp2_with fail
  refine HM.out.mono ?_
  rintro e w2 ⟨rfl, T2, G2⟩
  have B2 := b_grown B1 G2 hg
  have hh := thead_any T2 2 (by omega)
  rw [show headI (laid L4 1 r22) 2 = 1 from rfl] at hh
  have HHH := Lib.hid hh
  have HLG : Hid (∀ w', Below w2.heap.size w2 w' → Calls Try.prog 20 #[tp b, .int .i64 0, .int .i64 4] w' (LongRet (laid L4 1 r22) 0 4 w')) := Lib.hid (fun w' hb => tlong_any (tab_below T2 hb) 0 4)
  unfold tp at *
  clear hh T2 HM G2
  go_wp2_with fail
  refine HHH.out.mono ?_
  rintro e w3 ⟨rfl, B3⟩
  rw [show atR 1 = 1 from rfl, show okR 1 = true from rfl]
  go_wp2_with fail
  refine (HLG.out _ B3).mono ?_
  rintro e w4 ⟨m, hm, rfl, B4⟩
  have e1 : m = 1 := long_eq hm long4
  subst e1
  go_wp2_with fail
  go_ret
  exact ⟨rfl, b_call (b_call B2 B3) B4⟩
theorem thead_nil (a : Int) (w : World) : Calls Try.prog 11 #[.pointer none, .int .i64 a] w fun e w' => e = .returned (.tuple #[.int .i64 0, .bool false]) ∧ Below w.heap.size w w' := by
  go_enter Try.func11, Try.ntmps11
  go_wp2_with fail
  go_loopw [1] (fun i wr => i = .int .i64 a ∧ Below w.heap.size w wr) (fun _ _ => 0)
  case atStart => exact ⟨rfl, Below.refl _ _⟩
  case round =>
    obtain ⟨rfl, hbw⟩ := hrel
    go_wp2_with fail
    refine (trow_nil _ _).mono ?_
    rintro e w1 ⟨rfl, hb1⟩
    unfold agg4 zr
    have hB1 := b_call hbw hb1
    go_wp2_with fail
    refine (trow_nil _ _).mono ?_
    rintro e w2 ⟨rfl, hb2⟩
    unfold agg4 zr
    have hB2 := b_call hB1 hb2
    go_wp2_with fail
    refine (first_any zr _).mono ?_
    rintro e w3 ⟨rfl, hb3⟩
    rw [show isF zr.k = false from rfl]
    have hB3 := b_call hB2 hb3
    go_wp2_with fail
    go_ret2
    exact ⟨rfl, hB3⟩
theorem cut00 (n : Int) : cutL 0 = 0 ∧ cutH 0 0 n = 0 := by
  refine ⟨rfl, ?_⟩
  unfold cutH cutL; repeat' split
  all_goals omega
theorem tcount_nil (n kind : Int) (w : World) : Calls Try.prog 10 #[.pointer none, .int .i64 0, .int .i64 n, .int .i64 kind] w fun e w' => e = .returned (.int .i64 0) ∧ w = w' := by
  have hc := tcut_nil 0 n w
  rw [(cut00 n).1, (cut00 n).2] at hc
  have HC := Lib.hid hc; clear hc
  go_enter Try.func10, Try.ntmps10
  go_wp2_with fail
  refine HC.out.mono ?_
  rintro e w1 ⟨rfl, rfl⟩
  go_wp2_with fail
  go_loop [9, 10] (fun n i => n = .int .i64 0 ∧ i = .int .i64 0) (fun _ _ => 0)
  case atStart => exact ⟨rfl, rfl⟩
  case round =>
    obtain ⟨rfl, rfl⟩ := hrel
    go_wp2_with fail
    go_ret
    exact ⟨rfl, rfl⟩
theorem tlong_nil (n : Int) (w : World) : Calls Try.prog 20 #[.pointer none, .int .i64 0, .int .i64 n] w fun e w' => e = .returned (.int .i64 0) ∧ w = w' := by
  have hc := tcut_nil 0 n w
  rw [(cut00 n).1, (cut00 n).2] at hc
  have HC := Lib.hid hc; clear hc
  go_enter Try.func20, Try.ntmps20
  go_wp2_with fail
  refine HC.out.mono ?_
  rintro e w1 ⟨rfl, rfl⟩
  go_wp2_with fail
  go_loop [7, 8, 9] (fun n r i => n = .int .i64 0 ∧ r = .int .i64 0 ∧ i = .int .i64 0) (fun _ _ _ => 0)
  case atStart => exact ⟨rfl, rfl, rfl⟩
  case round =>
    obtain ⟨rfl, rfl, rfl⟩ := hrel
    go_wp2_with fail
    go_ret
    exact ⟨rfl, rfl⟩
def r11 : Row4 := ⟨1, 0, 0, 1⟩
set_option maxHeartbeats 1000000 in
theorem pagesNil_any (n : Int) (w : World) : Calls Try.prog 6 #[.int .i64 n] w fun e w' => e = .returned (.bool true) ∧ Below w.heap.size w w' := by
  have hmap := fun w => tmap_nil 0 n r11 w
  unfold agg4 r11 at hmap
  have HMAP := Lib.hid hmap
  have HNEW := Lib.hid (tnew_any n)
  have HN0 := Lib.hid (tnew_any 0)
  have HN1 := Lib.hid (tnew_any 1)
  have HRN := Lib.hid (rnew_any n)
  clear hmap
  go_enter Try.func6, Try.ntmps6
  go_wp2_with fail
  refine (HMAP.out _).mono ?_
  rintro e w1 ⟨rfl, B1⟩
  go_wp2_with fail
  refine (thead_nil _ _).mono ?_
  rintro e w2 ⟨rfl, hb2⟩
  have B2 := b_call B1 hb2
  go_wp2_with fail
  refine (HNEW.out _).mono ?_
  rintro e w3 ⟨b, g, cap, rfl, T3, _, _, hb3⟩
  have B3 := b_call B2 hb3
  have hl := tlen_any T3
  rw [List.length_replicate] at hl
  have HL := Lib.hid hl; clear hl T3
  unfold tp at *
  go_wp2_with fail
  refine HL.out.mono ?_
  rintro e w4 ⟨rfl, rfl⟩
  go_wp2_with fail
  refine (HRN.out _).mono ?_
  rintro e w5 ⟨g5, cap5, rfl, R5, _, hb5⟩
  have B5 := b_call B3 hb5
  unfold rv
  rw [List.length_replicate]
  go_wp2_with (first
    | (go_at_call 13; refine (tlen_nil _).mono ?_; rintro e w' ⟨rfl, rfl⟩)
    | (go_at_call 12; refine (trow_nil _ _).mono ?_; rintro e w6 ⟨rfl, hb6⟩; have B6 := b_call B5 hb6; unfold agg4 zr)
    | (go_at_call 21; refine (tunmap_nil _ _).mono ?_; rintro e w7 ⟨rfl, hb7⟩; have B7 := b_call B6 hb7)
    | (go_at_call 10; refine (tcount_nil _ _ _).mono ?_; rintro e w' ⟨rfl, rfl⟩)
    | (go_at_call 20; refine (tlong_nil _ _).mono ?_; rintro e w' ⟨rfl, rfl⟩)
    | (go_at_call 15; refine (tcopy_nil _).mono ?_; rintro e w' ⟨rfl, rfl⟩))
  refine (HN0.out _).mono ?_
  rintro e w8 ⟨b8, g8, cap8, rfl, T8, _, _, hb8⟩
  have B8 := b_call B7 hb8
  have hs := tsame_left T8
  rw [show decide ((List.replicate (sizeP 0) zr).length = 0) = true from rfl] at hs
  have HS := Lib.hid hs; clear hs T8
  unfold tp at *
  go_wp2_with fail
  refine HS.out.mono ?_
  rintro e w' ⟨rfl, rfl⟩
  go_wp2_with fail
  refine (HN1.out _).mono ?_
  rintro e w9 ⟨b9, g9, cap9, rfl, T9, _, _, hb9⟩
  have B9 := b_call B8 hb9
  have hs := tsame_right T9 (by decide)
  have HS := Lib.hid hs; clear hs T9
  unfold tp at *
  go_wp2_with fail
  refine HS.out.mono ?_
  rintro e w' ⟨rfl, rfl⟩
  go_wp2_with fail
  refine (awake4_any _).mono ?_
  rintro e w10 ⟨rfl, hb10⟩
  have B10 := b_call B9 hb10
  go_wp2_with fail
  go_ret
  exact ⟨rfl, B10⟩
end Go.Proofs.Ytfbdnjmljdfjjaa
