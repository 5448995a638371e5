/- Layer 17's objects: shapes: may one be, bytes, class, the head's word; both the program's and the document's. No conditions beside those stated. -/
import Derived.Test.YtgbbnmjfkhconaaAre2
import Derived.Test.YtgbbnmjfkhconaaHeldE
import Derived.Test.YtgbbnmjfkhconaaL5
namespace Go.Proofs.Ytgbbnmjfkhconaa
open Go.RowKit
set_option linter.unusedVariables false
set_option linter.unusedSimpArgs false
attribute [local go_sem] over_cell over_frozen
def shp (r n : Int) : Value := .agg #[.int .i64 r, .int .i64 n]
def okS (r n : Int) : Bool := decide (0 ≤ r ∧ 0 ≤ n ∧ r + n ≤ 15)
def bytS (r n : Int) : Int := if okS r n = true then 8 + 8 * r + 8 * n else 0
def clsS (b : Int) : Int := if b ≤ 16 then 0 else if b ≤ 32 then 1 else if b ≤ 64 then 2 else 3
def wordS (r n : Int) : Int := 801077783718526976 + n * 65536 + r
theorem okS_iff (r n : Int) : okS r n = true ↔ 0 ≤ r ∧ 0 ≤ n ∧ r + n ≤ 15 := by unfold okS; rw [decide_eq_true_iff]
theorem okS_no {r n : Int} (h : ¬ (0 ≤ r ∧ 0 ≤ n ∧ r + n ≤ 15)) : okS r n = false ∧ bytS r n = 0 := by
  have e : okS r n = false := decide_eq_false h
  exact ⟨e, by unfold bytS; rw [e]; rfl⟩
theorem okS_yes {r n : Int} (h : 0 ≤ r ∧ 0 ≤ n ∧ r + n ≤ 15) : okS r n = true ∧ bytS r n = 8 + 8 * r + 8 * n := by
  have e : okS r n = true := decide_eq_true h
  exact ⟨e, by unfold bytS; rw [e]; rfl⟩
theorem bytS_bd (r n : Int) : 0 ≤ bytS r n ∧ bytS r n ≤ 128 := by
  by_cases h : 0 ≤ r ∧ 0 ≤ n ∧ r + n ≤ 15
  · rw [(okS_yes h).2]; omega
  · rw [(okS_no h).2]; omega
theorem ours17_any (r n : Int) (w : World) : Calls Try.prog 13 #[shp r n] w fun e w' => e = .returned (shp r n) ∧ Below w.heap.size w w' := by
  unfold shp
  go_enter Try.func13, Try.ntmps13
  go_wp2_with fail
  exact bodyPost_ret (v := .agg #[.int .i64 r, .int .i64 n]) (by simp [results, Try.results13, go_sem]) rfl ⟨rfl, by (repeat' (first | exact Below.refl _ _ | assumption | refine b_alloc ?_ _ | refine b_over ?_ _ | refine b_drew ?_ | refine b_call ?_ (by assumption)))⟩
theorem omay_any (r n : Int) (w : World) : Calls Try.prog 65 #[shp r n] w fun e w' => e = .returned (.bool (okS r n)) ∧ Below w.heap.size w w' := by
  unfold shp
  rcases (show r < 0 ∨ (0 ≤ r ∧ n < 0) ∨ (0 ≤ r ∧ 0 ≤ n ∧ 15 < r) ∨ (0 ≤ r ∧ 0 ≤ n ∧ r ≤ 15 ∧ 15 - r < n) ∨ (0 ≤ r ∧ 0 ≤ n ∧ r ≤ 15 ∧ n ≤ 15 - r) by omega) with q | ⟨q1, q⟩ | ⟨q1, q2, q⟩ | ⟨q1, q2, q3, q⟩ | ⟨q1, q2, q3, q⟩
  case inr.inr.inr.inr =>
    rw [show okS r n = true from decide_eq_true (by omega)]
    go_enter Try.func65, Try.ntmps65
    go_wp2_with fail
    go_ret
    exact ⟨rfl, by (repeat' (first | exact Below.refl _ _ | assumption | refine b_alloc ?_ _ | refine b_over ?_ _ | refine b_drew ?_ | refine b_call ?_ (by assumption)))⟩
  all_goals
    rw [show okS r n = false from decide_eq_false (by omega)]
    go_enter Try.func65, Try.ntmps65
    go_wp2_with fail
    go_ret
    exact ⟨by first | rfl | (show Ending.returned (.bool (decide (n ≤ 15 - r))) = _; rw [decide_eq_false (by omega)]), by (repeat' (first | exact Below.refl _ _ | assumption | refine b_alloc ?_ _ | refine b_over ?_ _ | refine b_drew ?_ | refine b_call ?_ (by assumption)))⟩
theorem obytes_any (r n : Int) (w : World) : Calls Try.prog 14 #[shp r n] w fun e w' => e = .returned (.tuple #[.int .i64 (bytS r n), .bool (okS r n)]) ∧ Below w.heap.size w w' := by
  have HM := Lib.hid (fun w => omay_any r n w)
  unfold shp at *
  by_cases h : 0 ≤ r ∧ 0 ≤ n ∧ r + n ≤ 15
  · rw [(okS_yes h).1, (okS_yes h).2]
    rw [(okS_yes h).1] at HM
    obtain ⟨h1, h2, h3⟩ := h
    have e1 : IntKind.i64.wrap (1 + r) = 1 + r := by rw [IntKind.wrap_i64]; omega
    go_enter Try.func14, Try.ntmps14
    go_wp2_with fail
    refine (HM.out _).mono ?_
    rintro e w1 ⟨rfl, hb1⟩
    obtain ⟨hc1, hf1⟩ := bcell hb1
    have hz1 := hb1.size
    simp only [World.size_alloc] at hz1
    go_wp2_with fail
    go_ret2
    exact ⟨by show Ending.returned (.tuple #[.int .i64 (8 * (1 + r + n)), .bool true]) = _; rw [show 8 * (1 + r + n) = 8 + 8 * r + 8 * n by omega], by (repeat' (first | exact Below.refl _ _ | assumption | refine b_alloc ?_ _ | refine b_over ?_ _ | refine b_drew ?_ | refine b_call ?_ (by assumption)))⟩
  · rw [(okS_no h).1, (okS_no h).2]
    rw [(okS_no h).1] at HM
    clear h
    go_enter Try.func14, Try.ntmps14
    go_wp2_with fail
    refine (HM.out _).mono ?_
    rintro e w1 ⟨rfl, hb1⟩
    go_wp2_with fail
    go_ret2
    exact ⟨rfl, by (repeat' (first | exact Below.refl _ _ | assumption | refine b_alloc ?_ _ | refine b_over ?_ _ | refine b_drew ?_ | refine b_call ?_ (by assumption)))⟩
theorem rbytes_any (r n : Int) (w : World) : Calls Try.prog 16 #[shp r n] w fun e w' => e = .returned (.int .i64 (bytS r n)) ∧ Below w.heap.size w w' := by
  unfold shp
  rcases (show r < 0 ∨ (0 ≤ r ∧ n < 0) ∨ (0 ≤ r ∧ 0 ≤ n ∧ 15 < r) ∨ (0 ≤ r ∧ 0 ≤ n ∧ r ≤ 15 ∧ 15 < n) ∨ (0 ≤ r ∧ 0 ≤ n ∧ r ≤ 15 ∧ n ≤ 15 ∧ 15 < r + n) ∨ (0 ≤ r ∧ 0 ≤ n ∧ r ≤ 15 ∧ n ≤ 15 ∧ r + n ≤ 15) by omega) with q | ⟨q1, q⟩ | ⟨q1, q2, q⟩ | ⟨q1, q2, q3, q⟩ | ⟨q1, q2, q3, q4, q⟩ | ⟨q1, q2, q3, q4, q⟩
  case inr.inr.inr.inr.inr =>
    rw [(okS_yes ⟨q1, q2, q⟩).2]
    go_enter Try.func16, Try.ntmps16
    go_wp2_with fail
    go_ret
    exact ⟨rfl, by (repeat' (first | exact Below.refl _ _ | assumption | refine b_alloc ?_ _ | refine b_over ?_ _ | refine b_drew ?_ | refine b_call ?_ (by assumption)))⟩
  all_goals
    rw [(okS_no (by omega)).2]
    go_enter Try.func16, Try.ntmps16
    go_wp2_with fail
    go_ret
    exact ⟨rfl, by (repeat' (first | exact Below.refl _ _ | assumption | refine b_alloc ?_ _ | refine b_over ?_ _ | refine b_drew ?_ | refine b_call ?_ (by assumption)))⟩
theorem cmay_any (c : Int) (w : World) : Calls Try.prog 103 #[.int .i64 c] w fun e w' => e = .returned (.bool (mayB c)) ∧ w = w' := by
  by_cases h : 0 ≤ c
  · have e : mayB c = decide (c < 4) := by unfold mayB; rw [decide_eq_true h, Bool.true_and]
    have H := Lib.hid e; clear e
    go_enter Try.func103, Try.ntmps103
    go_wp2
    go_ret
    exact ⟨by rw [H.out]; rfl, rfl⟩
  · have e : mayB c = false := by unfold mayB; rw [decide_eq_false h, Bool.false_and]
    have H := Lib.hid e; clear e
    go_enter Try.func103, Try.ntmps103
    go_wp2
    go_ret
    exact ⟨by rw [H.out]; rfl, rfl⟩
theorem csize_any (c : Int) (w : World) : Calls Try.prog 66 #[.int .i64 c] w fun e w' => e = .returned (.int .i64 (sizeI c)) ∧ w = w' := by
  rcases class_cases c with rfl | rfl | rfl | rfl | ⟨hm, h, h1, _, _⟩
  case inr.inr.inr.inr =>
    have H := Lib.hid h1; clear h1
    clear h
    go_enter Try.func66, Try.ntmps66
    go_wp2_with (go_at_call 103; refine (cmay_any c _).mono ?_; rintro e w' ⟨rfl, rfl⟩)
    go_ret
    exact ⟨by rw [H.out]; rfl, rfl⟩
  all_goals
    go_enter Try.func66, Try.ntmps66
    go_wp2
    go_ret
    exact ⟨rfl, rfl⟩
theorem clsS_cases {b : Int} (h : 0 ≤ b ∧ b ≤ 128) : (clsS b = 0 ∧ b ≤ 16) ∨ (clsS b = 1 ∧ 16 < b ∧ b ≤ 32) ∨ (clsS b = 2 ∧ 32 < b ∧ b ≤ 64) ∨ (clsS b = 3 ∧ 64 < b) := by
  unfold clsS
  split
  · exact Or.inl ⟨rfl, by assumption⟩
  · split
    · exact Or.inr (Or.inl ⟨rfl, by omega, by assumption⟩)
    · split
      · exact Or.inr (Or.inr (Or.inl ⟨rfl, by omega, by assumption⟩))
      · exact Or.inr (Or.inr (Or.inr ⟨rfl, by omega⟩))
theorem cls_step {b : Int} (h : 0 ≤ b ∧ b ≤ 128) {k : Nat} (hk : (k : Int) ≤ clsS b) : 16 ≤ (16 * 2 ^ k : Int) ∧ (16 * 2 ^ k : Int) ≤ 128 ∧ k ≤ 3 ∧ sizeI k = 16 * 2 ^ k ∧ (((16 * 2 ^ k : Int) < b ∧ (k : Int) < clsS b) ∨ (b ≤ 16 * 2 ^ k ∧ (k : Int) = clsS b)) := by
  have q := clsS_cases h
  have k3 : k ≤ 3 := by omega
  rcases (show k = 0 ∨ k = 1 ∨ k = 2 ∨ k = 3 by omega) with rfl | rfl | rfl | rfl
  all_goals (refine ⟨by decide, by decide, by decide, by decide, ?_⟩)
  · show ((16 : Int) < b ∧ (0 : Int) < clsS b) ∨ (b ≤ 16 ∧ (0 : Int) = clsS b); omega
  · show ((32 : Int) < b ∧ (1 : Int) < clsS b) ∨ (b ≤ 32 ∧ (1 : Int) = clsS b); omega
  · show ((64 : Int) < b ∧ (2 : Int) < clsS b) ∨ (b ≤ 64 ∧ (2 : Int) = clsS b); omega
  · show ((128 : Int) < b ∧ (3 : Int) < clsS b) ∨ (b ≤ 128 ∧ (3 : Int) = clsS b); omega
theorem rclass_any (r n : Int) (w : World) : Calls Try.prog 18 #[shp r n] w fun e w' => e = .returned (.int .i64 (clsS (bytS r n))) ∧ Below w.heap.size w w' := by
  have HM := Lib.hid (fun w => rbytes_any r n w)
  have hbd := bytS_bd r n
  have HST := Lib.hid (fun (k : Nat) (hk : (k : Int) ≤ clsS (bytS r n)) => cls_step hbd hk)
  unfold shp at *
  generalize bytS r n = b at *
  go_enter Try.func18, Try.ntmps18
  go_wp2_with fail
  go_loopw [3, 4] (fun cv nv wr => ∃ k : Nat, (k : Int) ≤ clsS b ∧ cv = .int .i64 k ∧ nv = .int .i64 (16 * 2 ^ k) ∧ Below w.heap.size w wr ∧ w.heap.size < wr.heap.size ∧ wr.cell? ⟨w.heap.size, 0, none⟩ = some (.int .i64 r) ∧ wr.cell? ⟨w.heap.size, 1, none⟩ = some (.int .i64 n)) (fun cv _ _ => (4 - intOf cv).toNat)
  case atStart =>
    refine ⟨0, ?_, rfl, rfl, b_alloc (Below.refl _ _) _, by rw [World.size_alloc]; omega, ?_, ?_⟩
    · have := clsS_cases hbd; omega
    · go_simp
    · go_simp
  case round =>
    obtain ⟨k, hk, rfl, rfl, hbw, hsz, hd0, hd1⟩ := hrel
    obtain ⟨n1, n2, k3, _, hor⟩ := HST.out k hk
    have HP : Hid ((2 * (16 * 2 ^ k) : Int) = 16 * 2 ^ (k + 1)) := by show (2 * (16 * 2 ^ k) : Int) = 16 * 2 ^ (k + 1); rw [Int.pow_succ]; omega
    generalize hN : (16 * 2 ^ k : Int) = N at *
    clear hN
    have HBW := Lib.hid hbw
    clear hbw
    rcases hor with ⟨h1, h2⟩ | ⟨h1, h2⟩
    · go_wp2_with fail
      refine (HM.out _).mono ?_
      rintro e w1 ⟨rfl, hb1⟩
      obtain ⟨hc1, hf1⟩ := bcell hb1
      have hz1 := hb1.size
      go_wp2_with fail
      exact ⟨⟨k + 1, by omega, by go_num, by rw [HP.out], b_call HBW.out hb1, by omega, by rw [hc1 _ _ hsz]; exact hd0, by rw [hc1 _ _ hsz]; exact hd1⟩, by simp only [intOf]; omega⟩
    · have HE := Lib.hid h2
      clear h2 hk
      go_wp2_with fail
      refine (HM.out _).mono ?_
      rintro e w1 ⟨rfl, hb1⟩
      go_wp2_with fail
      go_ret
      exact ⟨by rw [HE.out]; rfl, b_call HBW.out hb1⟩
theorem oclass_any (r n : Int) (w : World) : Calls Try.prog 15 #[shp r n] w fun e w' => e = .returned (.tuple #[.int .i64 (clsS (bytS r n)), .bool (okS r n)]) ∧ Below w.heap.size w w' := by
  have HM := Lib.hid (fun w => obytes_any r n w)
  have hbd := bytS_bd r n
  have HST := Lib.hid (fun (k : Nat) (hk : (k : Int) ≤ clsS (bytS r n)) => cls_step hbd hk)
  by_cases ho : okS r n = true
  · rw [ho] at HM ⊢
    clear ho
    unfold shp at *
    generalize bytS r n = b at *
    go_enter Try.func15, Try.ntmps15
    go_wp2_with fail
    refine (HM.out _).mono ?_
    rintro e w1 ⟨rfl, hb1⟩
    have HB1 := Lib.hid (b_call (b_alloc (Below.refl _ w) _) hb1)
    clear hb1
    go_wp2_with fail
    go_loopw [6] (fun cv wr => ∃ k : Nat, (k : Int) ≤ clsS b ∧ cv = .int .i64 k ∧ Hid (Below w.heap.size w wr)) (fun cv _ => (4 - intOf cv).toNat)
    case atStart => exact ⟨0, by have := clsS_cases hbd; omega, rfl, HB1.out⟩
    case round =>
      obtain ⟨k, hk, rfl, HBW⟩ := hrel
      obtain ⟨n1, n2, k3, hsz, hor⟩ := HST.out k hk
      have HSZ := Lib.hid (fun w => csize_any k w)
      rw [hsz] at HSZ
      clear hsz
      generalize hN : (16 * 2 ^ k : Int) = N at *
      clear hN
      rcases hor with ⟨h1, h2⟩ | ⟨h1, h2⟩
      · go_wp2_with fail
        refine (HSZ.out _).mono ?_
        rintro e w2 ⟨rfl, rfl⟩
        go_wp2_with fail
        exact ⟨⟨k + 1, by omega, by go_num, HBW⟩, by simp only [intOf]; omega⟩
      · have HE := Lib.hid h2
        clear h2 hk
        go_wp2_with fail
        refine (HSZ.out _).mono ?_
        rintro e w2 ⟨rfl, rfl⟩
        go_wp2_with fail
        go_ret2
        exact ⟨by rw [HE.out]; rfl, HBW.out⟩
  · have ho2 : okS r n = false := by simpa using ho
    have hb0 : bytS r n = 0 := by unfold bytS; rw [if_neg ho]
    rw [hb0, ho2] at HM
    rw [hb0, ho2, show clsS 0 = 0 from rfl]
    clear ho ho2 hb0 hbd HST
    unfold shp at *
    go_enter Try.func15, Try.ntmps15
    go_wp2_with fail
    refine (HM.out _).mono ?_
    rintro e w1 ⟨rfl, hb1⟩
    have HB1 := Lib.hid (b_call (b_alloc (Below.refl _ w) _) hb1)
    clear hb1
    go_wp2_with fail
    go_loopw [6] (fun cv wr => cv = .int .i64 0 ∧ Hid (Below w.heap.size w wr)) (fun cv _ => 0)
    case atStart => exact ⟨rfl, HB1.out⟩
    case round =>
      obtain ⟨rfl, HBW⟩ := hrel
      go_wp2_with fail
      go_ret2
      exact ⟨rfl, HBW.out⟩
/-- The two words of 'or' and of 'and' that a head is made of. -/
theorem or_all : ∀ n : Fin 16, bits BinOp.or IntKind.u64 801077783718526976 ((n.val : Int) * 65536) = 801077783718526976 + (n.val : Int) * 65536 := by decide
theorem or_all2 : ∀ n r : Fin 16, bits BinOp.or IntKind.u64 (801077783718526976 + (n.val : Int) * 65536) (r.val : Int) = wordS r.val n.val := by decide
theorem oword_any (r n : Int) (h : 0 ≤ r ∧ r ≤ 15 ∧ 0 ≤ n ∧ n ≤ 15) (w : World) : Calls Try.prog 79 #[shp r n] w fun e w' => e = .returned (.int .u64 (wordS r n)) ∧ Below w.heap.size w w' := by
  obtain ⟨h1, h2, h3, h4⟩ := h
  unfold shp
  have o1 : bits BinOp.or IntKind.u64 801077783718526976 (n * 65536) = 801077783718526976 + n * 65536 := by
    have q := or_all ⟨n.toNat, by omega⟩
    simp only [] at q
    rwa [show ((n.toNat : Nat) : Int) = n by omega] at q
  have o2 : bits BinOp.or IntKind.u64 (801077783718526976 + n * 65536) r = wordS r n := by
    have q := or_all2 ⟨n.toNat, by omega⟩ ⟨r.toNat, by omega⟩
    simp only [] at q
    rwa [show ((n.toNat : Nat) : Int) = n by omega, show ((r.toNat : Nat) : Int) = r by omega] at q
  go_enter Try.func79, Try.ntmps79
  go_wp2_with fail
  go_ret
  exact ⟨rfl, by (repeat' (first | exact Below.refl _ _ | assumption | refine b_alloc ?_ _ | refine b_over ?_ _ | refine b_drew ?_ | refine b_call ?_ (by assumption)))⟩
theorem rword_any (r n : Int) (h : 0 ≤ r ∧ r ≤ 15 ∧ 0 ≤ n ∧ n ≤ 15) (w : World) : Calls Try.prog 106 #[shp r n] w fun e w' => e = .returned (.int .u64 (wordS r n)) ∧ Below w.heap.size w w' := by
  obtain ⟨h1, h2, h3, h4⟩ := h
  unfold shp
  go_enter Try.func106, Try.ntmps106
  go_wp2_with fail
  go_ret
  exact ⟨rfl, by (repeat' (first | exact Below.refl _ _ | assumption | refine b_alloc ?_ _ | refine b_over ?_ _ | refine b_drew ?_ | refine b_call ?_ (by assumption)))⟩
end Go.Proofs.Ytgbbnmjfkhconaa
