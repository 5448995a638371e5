/- Layer 4: one call of both: the rest. Conditions: at most 256 pages; a whole table. -/
import Derived.Test.YtfbdnjmljdfjjaaPageY
namespace Go.Proofs.Ytfbdnjmljdfjjaa
open Go.RowKit
set_option linter.unusedVariables false
set_option linter.unusedSimpArgs false
attribute [local go_sem] over_cell over_frozen field_k field_n
theorem rowI_at (L : List Row4) (k : Nat) : rowI L (k : Int) = at4 L k := rowI_nat L k
theorem step_none {w : World} {b g cap g1 cap1 : Nat} {L : List Row4} (h : Pair w b g cap g1 cap1 L) (k a lo hi rk rc ro rn : Int) (hk : k < 0 ∨ 5 < k) :
    Calls Try.prog 9 #[tp b, rv g1 L cap1, .agg #[.int .i64 k, .int .i64 a, .int .i64 lo, .int .i64 hi, .int .i64 rk, .int .i64 rc, .int .i64 ro, .int .i64 rn]] w (StepRet w b g cap g1 cap1 L) := by
  have HP := Lib.hid h
  have t0 : (k == 0) = false := by rw [beq_eq_false_iff_ne]; omega
  have t1 : (k == 1) = false := by rw [beq_eq_false_iff_ne]; omega
  have t2 : (k == 2) = false := by rw [beq_eq_false_iff_ne]; omega
  have t3 : (k == 3) = false := by rw [beq_eq_false_iff_ne]; omega
  have t4 : (k == 4) = false := by rw [beq_eq_false_iff_ne]; omega
  have t5 : (k == 5) = false := by rw [beq_eq_false_iff_ne]; omega
  have HFIN : Hid (∀ w', Below w.heap.size w w' → StepRet w b g cap g1 cap1 L (.returned (.tuple #[.slice (some ⟨g1, 0, none⟩) L.length cap1, .bool true])) w') := Lib.hid (fun w' hb => step_same HP.out hb)
  have hB := b_alloc (Below.refl w.heap.size w) (.cells #[.int .i64 k, .int .i64 a, .int .i64 lo, .int .i64 hi, .int .i64 rk, .int .i64 rc, .int .i64 ro, .int .i64 rn] 30)
  unfold rv tp
  clear h hk
  go_enter Try.func9, Try.ntmps9
  go_wp2_with fail
  go_ret2
  exact HFIN.out _ hB
set_option maxHeartbeats 1000000 in
theorem step_unmap_no {w : World} {b g cap g1 cap1 : Nat} {L : List Row4} (h : Pair w b g cap g1 cap1 L) (k a lo hi rk rc ro rn : Int) (hk : k = 3 ∨ k = 4) (hf : isF (rowI L a).k = false) :
    Calls Try.prog 9 #[tp b, rv g1 L cap1, .agg #[.int .i64 k, .int .i64 a, .int .i64 lo, .int .i64 hi, .int .i64 rk, .int .i64 rc, .int .i64 ro, .int .i64 rn]] w (StepRet w b g cap g1 cap1 L) := by
  have HP := Lib.hid h
  have HFIN : Hid (∀ w', Below w.heap.size w w' → StepRet w b g cap g1 cap1 L (.returned (.tuple #[.slice (some ⟨g1, 0, none⟩) L.length cap1, .bool true])) w') := Lib.hid (fun w' hb => step_same HP.out hb)
  have HUN : Hid (∀ w', Below w.heap.size w w' → Calls Try.prog 21 #[.pointer (some ⟨b, 0, none⟩), .int .i64 a] w' fun e w2 => e = .returned (.int .i64 6) ∧ Below w'.heap.size w' w2) := Lib.hid (fun w' hb => tunmap_no (tab_below HP.out.t hb) a hf)
  have hB := b_alloc (Below.refl w.heap.size w) (.cells #[.int .i64 k, .int .i64 a, .int .i64 lo, .int .i64 hi, .int .i64 rk, .int .i64 rc, .int .i64 ro, .int .i64 rn] 30)
  have BX := blk_new w #[.int .i64 k, .int .i64 a, .int .i64 lo, .int .i64 hi, .int .i64 rk, .int .i64 rc, .int .i64 ro, .int .i64 rn] 30
  have HBX := Lib.hid BX; clear BX
  have l0 : (0 : Int) ≤ L.length := by omega
  rcases (show a < 0 ∨ (0 ≤ a ∧ (L.length : Int) ≤ a) ∨ ∃ m : Nat, m < L.length ∧ a = m by
    rcases (show a < 0 ∨ (0 ≤ a ∧ (L.length : Int) ≤ a) ∨ (0 ≤ a ∧ a < L.length) by omega) with q | q | q
    · exact Or.inl q
    · exact Or.inr (Or.inl q)
    · exact Or.inr (Or.inr ⟨a.toNat, by omega, by omega⟩)) with q | ⟨q1, q2⟩ | ⟨m, hm, rfl⟩
  · unfold rv tp
    clear h hf
    rcases hk with rfl | rfl
    all_goals
      go_enter Try.func9, Try.ntmps9
      go_wp2_with fail
      refine (HUN.out _ hB).mono ?_
      rintro e w3 ⟨rfl, hb3⟩
      have hB3 := b_call hB hb3
      obtain ⟨x0, x1, x2, x3, x4, x5, x6, x7⟩ := blk8 (blk_below HBX.out hb3)
      go_wp2_with fail
      go_ret2
      exact HFIN.out _ hB3
  · unfold rv tp
    clear h hf
    rcases hk with rfl | rfl
    all_goals
      go_enter Try.func9, Try.ntmps9
      go_wp2_with fail
      refine (HUN.out _ hB).mono ?_
      rintro e w3 ⟨rfl, hb3⟩
      have hB3 := b_call hB hb3
      obtain ⟨x0, x1, x2, x3, x4, x5, x6, x7⟩ := blk8 (blk_below HBX.out hb3)
      go_wp2_with fail
      go_ret2
      exact HFIN.out _ hB3
  · have HC := rl_cells h.r m hm
    have hg1 := h.r.rw.1
    rw [rowI_in hm] at hf
    have HF := Lib.hid hf
    have m0 : (0 : Int) ≤ m := by omega
    have m1 : (m : Int) < L.length := by omega
    generalize L[m] = r at *
    have HC' := Lib.hid HC
    unfold rv tp
    clear h hf HC
    rcases hk with rfl | rfl
    all_goals
      go_enter Try.func9, Try.ntmps9
      go_wp2_with fail
      refine (HUN.out _ hB).mono ?_
      rintro e w3 ⟨rfl, hb3⟩
      have hB3 := b_call hB hb3
      obtain ⟨x0, x1, x2, x3, x4, x5, x6, x7⟩ := blk8 (blk_below HBX.out hb3)
      have HC := HC'.out
      rw [← (bcell hB3).1 _ _ hg1, ← (bcell hB3).1 _ _ hg1, ← (bcell hB3).1 _ _ hg1, ← (bcell hB3).1 _ _ hg1] at HC
      obtain ⟨y0, y1, y2, y3⟩ := HC
      go_wp2_with fail
      refine (rfst_any _ _).mono ?_
      rintro e w4 ⟨rfl, rfl⟩
      rw [HF.out]
      go_wp2_with fail
      go_ret2
      exact HFIN.out _ hB3
set_option maxHeartbeats 1000000 in
theorem step_unmap_ok {w : World} {b g cap g1 cap1 : Nat} {L : List Row4} (h : Pair w b g cap g1 cap1 L) (k lo hi rk rc ro rn : Int) (m : Nat) (hk : k = 3 ∨ k = 4) (hf : isF (at4 L m).k = true) :
    Calls Try.prog 9 #[tp b, rv g1 L cap1, .agg #[.int .i64 k, .int .i64 m, .int .i64 lo, .int .i64 hi, .int .i64 rk, .int .i64 rc, .int .i64 ro, .int .i64 rn]] w (StepRet w b g cap g1 cap1 L) := by
  have HP := Lib.hid h
  obtain ⟨hm, h1, h2, _⟩ := wf_first h.wf hf
  have e0 : at4 L m = L[m] := getD_in hm
  obtain ⟨n, hn⟩ : ∃ n : Nat, (at4 L m).n = n := ⟨(at4 L m).n.toNat, by omega⟩
  have HWF : Hid (WF (cleared L m n)) := wf_cleared h.wf hf hn
  have HLEN : Hid ((cleared L m n).length = L.length) := cleared_length (by omega)
  have hf' : isF L[m].k = true := by rw [← e0]; exact hf
  have hn' : L[m].n = n := by rw [← e0]; exact hn
  have HUN : Hid (∀ w', Below w.heap.size w w' → Calls Try.prog 21 #[.pointer (some ⟨b, 0, none⟩), .int .i64 m] w' fun e w2 => e = .returned (.int .i64 0) ∧ TabAt w2 b g cap (cleared L m n) ∧ w'.grownBy w2 (some g)) := Lib.hid (fun w' hb => by
    have q := tunmap_ok (tab_below HP.out.t hb) m (at4 L m) (rowI_at L m) hm hf h1 h2
    rw [hn, Int.toNat_natCast] at q; exact q)
  have HCL : Hid (∀ w', RL w' g1 cap1 L → Calls Try.prog 28 #[.slice (some ⟨g1, 0, none⟩) L.length cap1, .int .i64 m] w' (NewL w' (cleared L m n))) := Lib.hid (fun w' hr => rclear_any hr m n hm hn' (by omega))
  have hB := b_alloc (Below.refl w.heap.size w) (.cells #[.int .i64 k, .int .i64 m, .int .i64 lo, .int .i64 hi, .int .i64 rk, .int .i64 rc, .int .i64 ro, .int .i64 rn] 30)
  have BX := blk_new w #[.int .i64 k, .int .i64 m, .int .i64 lo, .int .i64 hi, .int .i64 rk, .int .i64 rc, .int .i64 ro, .int .i64 rn] 30
  have HBX := Lib.hid BX; clear BX
  have HC := rl_cells h.r m hm
  have hg := h.t.rw.1
  have hb := h.t.hd.1
  have hg1 := h.r.rw.1
  have hn1 := h.n1
  have hn2 := h.n2
  have hne : some w.heap.size ≠ some g := fun e => by injection e with e; omega
  have hne1 : some g1 ≠ some g := fun e => by injection e with e; exact hn1 e
  have m0 : (0 : Int) ≤ m := by omega
  have m1 : (m : Int) < L.length := by omega
  have HF := Lib.hid hf'
  generalize cleared L m n = LL at *
  clear hf hn hf' hn' e0 h1 h2 HC h
  unfold rv tp
  rcases hk with rfl | rfl
  all_goals
    go_enter Try.func9, Try.ntmps9
    go_wp2_with fail
    refine (HUN.out _ hB).mono ?_
    rintro e w3 ⟨rfl, T3, G3⟩
    have hs3 := hB.size
    have GW3 := below_gb hB G3
    have R3 := rl_grown (rl_below HP.out.r hB) G3 hne1
    obtain ⟨x0, x1, x2, x3, x4, x5, x6, x7⟩ := blk8 (blk_grown HBX.out G3 hne)
    have R3H := Lib.hid R3
    have yy := rl_cells R3 m hm
    have HF2 : isF L[m].k = true := HF.out
    generalize L[m] = r at *
    have HF3 := Lib.hid HF2
    clear HF2 R3
    obtain ⟨y0, y1, y2, y3⟩ := yy
    go_wp2_with fail
    refine (rfst_any _ _).mono ?_
    rintro e w4 ⟨rfl, rfl⟩
    rw [HF3.out]
    go_wp2_with fail
    refine (HCL.out _ R3H.out).mono ?_
    rintro e w5 ⟨g2, cap2, rfl, R5, hg5, hb5⟩
    have T5 := tab_below T3 hb5
    have GW5 := gb_below GW3 hb5
    have hg6 := GW3.size
    unfold rv
    clear x0 x1 x2 x3 x4 x5 x6 x7 T3 GW3 y0 y1 y2 y3 G3
    go_wp2_with fail
    go_ret2
    exact ⟨LL, g2, cap2, rfl, ⟨T5, R5, by omega, by omega, HWF.out⟩, Or.inr (by omega), HLEN.out, GW5⟩
theorem step_head {w : World} {b g cap g1 cap1 : Nat} {L : List Row4} (h : Pair w b g cap g1 cap1 L) (a lo hi rk rc ro rn : Int) (ha : -9223372036854775808 ≤ a ∧ a ≤ 9223372036854775807) :
    Calls Try.prog 9 #[tp b, rv g1 L cap1, .agg #[.int .i64 5, .int .i64 a, .int .i64 lo, .int .i64 hi, .int .i64 rk, .int .i64 rc, .int .i64 ro, .int .i64 rn]] w (StepRet w b g cap g1 cap1 L) := by
  have HP := Lib.hid h
  have HFIN : Hid (∀ w', Below w.heap.size w w' → StepRet w b g cap g1 cap1 L (.returned (.tuple #[.slice (some ⟨g1, 0, none⟩) L.length cap1, .bool true])) w') := Lib.hid (fun w' hb => step_same HP.out hb)
  have HHD : Hid (∀ w', Below w.heap.size w w' → Calls Try.prog 11 #[.pointer (some ⟨b, 0, none⟩), .int .i64 a] w' fun e w2 => e = .returned (.tuple #[.int .i64 (atR (headI L a)), .bool (okR (headI L a))]) ∧ Below w'.heap.size w' w2) := Lib.hid (fun w' hb => thead_any (tab_below HP.out.t hb) a ha.2)
  have HRH : Hid (∀ w', Below w.heap.size w w' → Calls Try.prog 29 #[.slice (some ⟨g1, 0, none⟩) L.length cap1, .int .i64 a] w' fun e w2 => e = .returned (.int .i64 (headI L a)) ∧ Below w'.heap.size w' w2) := Lib.hid (fun w' hb => (rhead_any (rl_below HP.out.r hb) a ha).mono fun e w2 ⟨r, hr, he, hw⟩ => ⟨by rw [he, head_eq HP.out.wf hr], hw⟩)
  have hB := b_alloc (Below.refl w.heap.size w) (.cells #[.int .i64 5, .int .i64 a, .int .i64 lo, .int .i64 hi, .int .i64 rk, .int .i64 rc, .int .i64 ro, .int .i64 rn] 30)
  have BX := blk_new w #[.int .i64 5, .int .i64 a, .int .i64 lo, .int .i64 hi, .int .i64 rk, .int .i64 rc, .int .i64 ro, .int .i64 rn] 30
  have HBX := Lib.hid BX; clear BX
  have hi := head_is h.wf a
  have hi2 : headI L a = -1 ∨ 0 ≤ headI L a := by
    rcases hi with ⟨e, _⟩ | ⟨k, e, _⟩ <;> omega
  clear h hi
  generalize headI L a = r at *
  unfold rv tp
  rcases hi2 with rfl | hr
  · rw [show atR (-1) = 0 from rfl, show okR (-1) = false from rfl] at HHD
    go_enter Try.func9, Try.ntmps9
    go_wp2_with fail
    refine (HHD.out _ hB).mono ?_
    rintro e w3 ⟨rfl, hb3⟩
    have hB3 := b_call hB hb3
    obtain ⟨x0, x1, x2, x3, x4, x5, x6, x7⟩ := blk8 (blk_below HBX.out hb3)
    go_wp2_with fail
    refine (HRH.out _ hB3).mono ?_
    rintro e w4 ⟨rfl, hb4⟩
    have hB4 := b_call hB3 hb4
    go_wp2_with fail
    go_ret2
    exact HFIN.out _ hB4
  · rw [show atR r = r by unfold atR; rw [if_pos hr], show okR r = true by unfold okR; exact decide_eq_true hr] at HHD
    have t1 : decide (r ≥ 0) = true := decide_eq_true hr
    go_enter Try.func9, Try.ntmps9
    go_wp2_with fail
    refine (HHD.out _ hB).mono ?_
    rintro e w3 ⟨rfl, hb3⟩
    have hB3 := b_call hB hb3
    obtain ⟨x0, x1, x2, x3, x4, x5, x6, x7⟩ := blk8 (blk_below HBX.out hb3)
    go_wp2_with fail
    refine (HRH.out _ hB3).mono ?_
    rintro e w4 ⟨rfl, hb4⟩
    have hB4 := b_call hB3 hb4
    go_wp2_with fail
    go_ret2
    exact HFIN.out _ hB4
def aggO (o : OpP) : Value := .agg #[.int .i64 o.k, .int .i64 o.a, .int .i64 o.lo, .int .i64 o.hi, .int .i64 o.r.k, .int .i64 o.r.c, .int .i64 o.r.o, .int .i64 o.r.n]
def InR (n : Int) : Prop := -9223372036854775808 ≤ n ∧ n ≤ 9223372036854775807
theorem step_any {w : World} {b g cap g1 cap1 : Nat} {L : List Row4} (h : Pair w b g cap g1 cap1 L) (o : OpP) (ha : InR o.a) :
    Calls Try.prog 9 #[tp b, rv g1 L cap1, aggO o] w (StepRet w b g cap g1 cap1 L) := by
  obtain ⟨k, a, lo, hi, rk, rc, ro, rn⟩ := o
  unfold aggO
  simp only at ha ⊢
  rcases (show (k = 0 ∨ k = 1 ∨ k = 2) ∨ (k = 3 ∨ k = 4) ∨ k = 5 ∨ (k < 0 ∨ 5 < k) by omega) with hk | hk | rfl | hk
  · cases hm : mayR ⟨rk, rc, ro, rn⟩ with
    | false => exact step_bad h k a lo hi rk rc ro rn hk hm
    | true =>
      rcases placeI_is L lo hi rn.toNat with ⟨e, q⟩ | ⟨p, e, q⟩
      · exact step_full h k a lo hi rk rc ro rn hk hm (Or.inl ⟨rfl, q⟩)
      · exact step_ok h k a lo hi rk rc ro rn p hk hm (Or.inr ⟨p, rfl, q⟩)
  · cases hf : isF (rowI L a).k with
    | false => exact step_unmap_no h k a lo hi rk rc ro rn hk hf
    | true =>
      rcases (show a < 0 ∨ 0 ≤ a by omega) with q | q
      · rw [rowI_neg q] at hf; cases hf
      · obtain ⟨m, rfl⟩ : ∃ m : Nat, a = m := ⟨a.toNat, by omega⟩
        rw [rowI_at] at hf
        exact step_unmap_ok h k lo hi rk rc ro rn m hk hf
  · exact step_head h a lo hi rk rc ro rn ha
  · exact step_none h k a lo hi rk rc ro rn hk
end Go.Proofs.Ytfbdnjmljdfjjaa
