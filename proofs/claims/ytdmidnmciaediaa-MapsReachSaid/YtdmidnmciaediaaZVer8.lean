/- Layer 26: the contracts of the program's ways, leads; of slices.Grow, Concat, ContainsFunc as they are called there. Conditions: those stated. -/
import Derived.Test.YtdmidnmciaediaaZVer4
import Derived.Lib.AppendZerosOnto
namespace Go.Proofs.Ytdmidnmciaediaa
open Go.RowKit
set_option linter.unusedVariables false
set_option linter.unusedSimpArgs false
attribute [local go_sem] over_cell over_frozen
theorem vways_any (op x a b : Int) (k : Nat) (hk : k < 1000) (w : World) : Calls Try.prog 111 #[.agg #[.int .i64 op, .int .u64 x, .int .i64 a, .int .i64 b], .int .i64 k] w (RetI w (waysI ⟨op, x, a, b⟩ k)) := by
  by_cases h12 : op = 12
  · subst h12
    rw [show waysI ⟨12, x, a, b⟩ k = [a] from rfl]
    go_enter Try.func111, Try.ntmps111
    go_wp2_with fail
    go_ret
    exact ⟨_, _, rfl, readI_lit [a] (by simp) (by simp), by (repeat' (first | exact Below.refl _ _ | assumption | refine b_alloc ?_ _ | refine b_over ?_ _ | refine b_drew ?_ | refine b_call ?_ (by assumption)))⟩
  · by_cases h13 : op = 13
    · subst h13
      rw [show waysI ⟨13, x, a, b⟩ k = [(k : Int) + 1, a] from rfl]
      clear h12
      go_enter Try.func111, Try.ntmps111
      go_wp2_with fail
      go_ret
      exact ⟨_, _, rfl, readI_lit [(k : Int) + 1, a] (by simp) (by simp), by (repeat' (first | exact Below.refl _ _ | assumption | refine b_alloc ?_ _ | refine b_over ?_ _ | refine b_drew ?_ | refine b_call ?_ (by assumption)))⟩
    · by_cases h15 : op = 15
      · subst h15
        rw [show waysI ⟨15, x, a, b⟩ k = [] from rfl]
        clear h12 h13
        go_enter Try.func111, Try.ntmps111
        go_wp2_with fail
        go_ret
        exact ⟨_, _, rfl, readI_nil _, by (repeat' (first | exact Below.refl _ _ | assumption | refine b_alloc ?_ _ | refine b_over ?_ _ | refine b_drew ?_ | refine b_call ?_ (by assumption)))⟩
      · by_cases h35 : op = 35
        · subst h35
          rw [show waysI ⟨35, x, a, b⟩ k = [] from rfl]
          clear h12 h13 h15
          go_enter Try.func111, Try.ntmps111
          go_wp2_with fail
          go_ret
          exact ⟨_, _, rfl, readI_nil _, by (repeat' (first | exact Below.refl _ _ | assumption | refine b_alloc ?_ _ | refine b_over ?_ _ | refine b_drew ?_ | refine b_call ?_ (by assumption)))⟩
        · rw [show waysI ⟨op, x, a, b⟩ k = [(k : Int) + 1] by unfold waysI; rw [if_neg h12, if_neg h13, if_neg (by simp only; omega)]]
          have n12 : (op == 12) = false := beq_false_of_ne h12
          have n13 : (op == 13) = false := beq_false_of_ne h13
          have n15 : (op == 15) = false := beq_false_of_ne h15
          have n35 : (op == 35) = false := beq_false_of_ne h35
          clear h12 h13 h15 h35
          go_enter Try.func111, Try.ntmps111
          go_wp2_with fail
          go_ret
          exact ⟨_, _, rfl, readI_lit [(k : Int) + 1] (by simp) (by simp), by (repeat' (first | exact Below.refl _ _ | assumption | refine b_alloc ?_ _ | refine b_over ?_ _ | refine b_drew ?_ | refine b_call ?_ (by assumption)))⟩
theorem grow0 (w : World) : Calls Try.prog 117 #[.slice none 0 0, .int .i64 0] w fun e w' => e = .returned (.slice none 0 0) ∧ w = w' := by
  go_enter Try.func117, Try.ntmps117
  go_wp2_with fail
  go_ret
  exact ⟨rfl, rfl⟩
def GrowEnd (w : World) (e : Ending) (w' : World) : Prop := ∃ a c, e = .returned (.slice a 0 c) ∧ OwnI w' w.heap.size (.slice a 0 c) [] ∧ Below w.heap.size w w'
set_option maxRecDepth 100000 in
theorem grow_any (n : Nat) (hn : n ≤ 1000) (w : World) : Calls Try.prog 117 #[.slice none 0 0, .int .i64 n] w (GrowEnd w) := by
  rcases Nat.eq_zero_or_pos n with q | q
  · subst q
    refine (grow0 w).mono ?_
    rintro e w' ⟨rfl, rfl⟩
    exact ⟨none, 0, rfl, ownI_nil _ _, Below.refl _ _⟩
  · obtain ⟨i, hi, hz, hs, hb⟩ := info_parts rowInt.inf
    have hs : i.size = 1 := hs
    have hb : i.bytes = 8 := hb
    have n0 : (0 : Int) < n := by omega
    have n1 : (n : Int) ≤ 1000 := by omega
    have HR := Lib.run_append_nil_zeros (P := Try.prog) w 22 3 22 3 i _ .i64 .i64 under_ints Try.underlying3 hi hz n q (by omega) (by omega) (by rw [hb]; omega)
    have hcap := grownCap_ge w n 0 3
    have hcap2 := grownCap_le_maxLen w n 0 3 (by unfold maxLen; omega)
    have hcap3 := cap_le hcap2
    have HH := Lib.hid (And.intro hi (And.intro hz (And.intro hs hb)))
    have HC2 := Lib.hid hcap2
    generalize grownCap w n 0 3 = cap at *
    clear hi hz hs hb hcap2
    go_enter Try.func117, Try.ntmps117
    go_wp2_with (at_builtin; refine Lib.wpList_append_run _ rfl _ _ _ _ rfl _ _ rfl rfl _ _ HR ?_; clear HR)
    refine post_named ?_
    intro w1 hw1
    go_ret
    have hw1 := hw1
    refine ⟨some ⟨w.heap.size, 0, none⟩, cap, rfl, ⟨rfl, Or.inr ⟨w.heap.size, cap, _, rfl, Nat.le_refl _, by rw [hw1]; exact (MapKept.heap_alloc w.drew _).1, Nat.zero_le _, HC2.out, ?_, ?_⟩⟩, by rw [hw1]; exact b_alloc (b_drew (Below.refl _ _)) _⟩
    · rw [Array.size_append, size_zeroCells, size_zeroCells]
      show n * 1 + (cap - n) * 1 = cap * 1
      omega
    · rfl
def sumJ (m n j : Nat) : Nat := if j = 0 then 0 else if j = 1 then m else m + n
def catJ (xs ys : List Int) (j : Nat) : List Int := if j = 0 then [] else if j = 1 then xs else xs ++ ys
set_option maxHeartbeats 1000000 in
theorem concat_any (a1 a2 : Option Addr) (c1 c2 r : Nat) (xs ys : List Int) (w : World) (h1 : ReadI w (.slice a1 xs.length c1) xs) (h2 : ReadI w (.slice a2 ys.length c2) ys) (hr : Blk w r [.slice a1 xs.length c1, .slice a2 ys.length c2]) (hx : xs.length ≤ 100) (hy : ys.length ≤ 100) : Calls Try.prog 89 #[.slice (some ⟨r, 0, none⟩) 2 2] w (RetI w (xs ++ ys)) := by
  have H1 := Lib.hid h1; have H2 := Lib.hid h2; have HR := Lib.hid hr
  have HX := Lib.hid hx; have HY := Lib.hid hy
  have x0 : (xs.length : Int) ≤ 100 := by omega
  have y0 : (ys.length : Int) ≤ 100 := by omega
  have x1 : (0 : Int) ≤ xs.length := by omega
  have y1 : (0 : Int) ≤ ys.length := by omega
  obtain ⟨r0, r1, rf⟩ := blk2 hr
  have rz := hr.1
  clear h1 h2 hr hx hy
  go_enter Try.func89, Try.ntmps89
  go_wp2_with fail
  go_loopw [3, 11] (fun s i wr => ∃ j : Nat, j ≤ 2 ∧ i = .int .i64 j ∧ s = .int .i64 (sumJ xs.length ys.length j) ∧ w = wr) (fun _ i _ => 2 - (intOf i).toNat)
  case atStart => exact ⟨0, by omega, rfl, rfl, rfl⟩
  case round =>
    obtain ⟨j, hj, rfl, rfl, rfl⟩ := hrel
    rcases (show j = 0 ∨ j = 1 ∨ j = 2 by omega) with rfl | rfl | rfl
    · rw [show sumJ xs.length ys.length 0 = 0 from rfl]
      go_wp2_with fail
      go_roundw
      case rel => exact ⟨1, by omega, rfl, by first | rfl | (show Value.int .i64 _ = Value.int .i64 _; congr 1; first | omega | (simp [sumJ])), by first | rfl | trivial⟩
      case measure => simp [intOf]
    · rw [show sumJ xs.length ys.length 1 = xs.length from rfl]
      go_wp2_with fail
      go_roundw
      case rel => exact ⟨2, by omega, rfl, by first | rfl | (show Value.int .i64 _ = Value.int .i64 _; congr 1; first | omega | (simp [sumJ])), by first | rfl | trivial⟩
      case measure => simp [intOf]
    · rw [show sumJ xs.length ys.length 2 = xs.length + ys.length from rfl]
      go_wp2_with fail
      refine (grow_any (xs.length + ys.length) (by have := HX.out; have := HY.out; omega) _).mono ?_
      rintro e w1 ⟨ga, gc, rfl, own1, hb1⟩
      have OW1 := Lib.hid own1
      have HB1 := Lib.hid hb1
      clear own1 hb1 r0 r1 rf rz
      go_wp2_with fail
      go_loopw [6, 27] (fun v i w2 => ∃ j : Nat, j ≤ 2 ∧ i = .int .i64 j ∧ (∃ a c, v = .slice a (catJ xs ys j).length c ∧ Hid (OwnI w2 w.heap.size (.slice a (catJ xs ys j).length c) (catJ xs ys j))) ∧ Hid (Below w.heap.size w w2)) (fun _ i _ => 2 - (intOf i).toNat)
      case atStart => exact ⟨0, by omega, rfl, ⟨ga, gc, rfl, OW1⟩, HB1⟩
      case round =>
        obtain ⟨j, hj, rfl, ⟨va, vc, rfl, own⟩, hb⟩ := hrel
        have hbs := hb.out.size
        obtain ⟨r0, r1, rf⟩ := blk2 (blk_below HR.out hb.out)
        have rz := (blk_below HR.out hb.out).1
        rcases (show j = 0 ∨ j = 1 ∨ j = 2 by omega) with rfl | rfl | rfl
        · have own0 : OwnI wr w.heap.size (.slice va 0 vc) [] := own.out
          rw [show (catJ xs ys 0).length = 0 from rfl]
          have OWN := Lib.hid own0
          clear own own0
          go_wp2_with (at_builtin; refine appendI rfl _ _ rfl w.heap.size _ [] rfl OWN.out _ xs rfl (readI_below H1.out hb.out) ?c1 ?c2 ?_; (case c1 => (have := HX.out; simp; omega)); (case c2 => (exact hbs)); intro v3 w3 own3 hg3; obtain ⟨a3, k3, rfl⟩ := readI_len (ownI_read own3); rw [List.nil_append] at own3 ⊢; have OW3 := Lib.hid own3; have HB3 := Lib.hid (b_own hb.out OWN.out hg3); clear own3 hg3)
          go_roundw
          case rel => exact ⟨1, by omega, rfl, ⟨a3, k3, rfl, OW3⟩, HB3⟩
          case measure => simp [intOf]
        · have own0 : OwnI wr w.heap.size (.slice va xs.length vc) xs := own.out
          rw [show (catJ xs ys 1).length = xs.length from rfl]
          have OWN := Lib.hid own0
          clear own own0
          go_wp2_with (at_builtin; refine appendI rfl _ _ rfl w.heap.size _ xs rfl OWN.out _ ys rfl (readI_below H2.out hb.out) ?c1 ?c2 ?_; (case c1 => (have := HX.out; have := HY.out; omega)); (case c2 => (exact hbs)); intro v3 w3 own3 hg3; obtain ⟨a3, k3, rfl⟩ := readI_len (ownI_read own3); have OW3 := Lib.hid own3; have HB3 := Lib.hid (b_own hb.out OWN.out hg3); clear own3 hg3)
          go_roundw
          case rel => exact ⟨2, by omega, rfl, ⟨a3, k3, by first | rfl | (show _ = Value.slice a3 (xs ++ ys).length k3; rw [List.length_append]), OW3⟩, HB3⟩
          case measure => simp [intOf]
        · have own0 : OwnI wr w.heap.size (.slice va (xs ++ ys).length vc) (xs ++ ys) := own.out
          rw [show (catJ xs ys 2).length = (xs ++ ys).length from rfl]
          have OWN := Lib.hid own0
          clear own own0
          go_wp2_with fail
          go_ret
          exact ⟨va, vc, rfl, ownI_read OWN.out, hb.out⟩
def IdxEL1 (b : Bool) (W : World) (e : Ending) (w' : World) : Prop := ∃ i : Int, e = .returned (.int .i64 i) ∧ ((b = false ∧ i = -1) ∨ (b = true ∧ 0 ≤ i)) ∧ W = w'
theorem idxL1 (u : Value) (xs : List Int) (y0 : Value) (q : Int → Bool) (w : World) (h : ReadI w u xs) (hq : ∀ x ∈ xs, Calls Try.prog 132 #[.int .i64 x, y0] w fun e w' => e = .returned (.bool (q x)) ∧ w = w') : Calls Try.prog 134 #[u, .func (.func 132) #[] #[y0]] w (IdxEL1 (xs.any q) w) := by
  obtain ⟨a, cap, rfl⟩ := readI_len h
  have hl : (xs.length : Int) ≤ 9223372036854775807 := by
    obtain ⟨_, _, e, h1, h2, _⟩ := h; have := cap_le h2; omega
  have H := Lib.hid h
  have HQ := Lib.hid hq
  clear h hq
  go_enter Try.func134, Try.ntmps134
  go_wp2_with fail
  go_loopw [8] (fun i wr => ∃ k : Nat, k ≤ xs.length ∧ i = .int .i64 k ∧ wr = w ∧ Hid ((xs.take k).any q = false)) (fun i _ => xs.length - (intOf i).toNat)
  case atStart => exact ⟨0, Nat.zero_le _, rfl, rfl, rfl⟩
  case round =>
    obtain ⟨k, hk, rfl, rfl, hp⟩ := hrel
    have k0 : (0 : Int) ≤ k := by omega
    by_cases hlt : k < xs.length
    · obtain ⟨bl, off, cp, e1, r1, r2, hbl, r4⟩ := readI_pos H.out (by omega)
      cases e1
      have k1 : (k : Int) < xs.length := by omega
      have hc := r4 k hlt
      have HF : Hid (q xs[k] = true → xs.any q = true) := fun z => List.any_eq_true.2 ⟨xs[k], List.getElem_mem hlt, z⟩
      have HT : Hid (q xs[k] = false → (xs.take (k + 1)).any q = false) := fun z => by
        rw [List.take_succ_eq_append_getElem hlt, List.any_append, hp.out]; simp [z]
      rw [List.getD_eq_getElem?_getD, List.getElem?_eq_getElem hlt, Option.getD_some] at hc
      have HQK := Lib.hid (HQ.out xs[k] (List.getElem_mem hlt))
      generalize xs[k] = x at *
      clear r4
      obtain ⟨t, ht⟩ : ∃ t, t = q x := ⟨_, rfl⟩
      rw [← ht] at HQK HF HT
      clear ht
      go_wp2_with fail
      refine HQK.out.mono ?_
      rintro e w' ⟨rfl, rfl⟩
      cases t
      · go_wp2_with fail
        go_roundw
        case rel => exact ⟨k + 1, by omega, by first | rfl | trivial | go_num, by first | trivial | rfl, HT.out (by simp)⟩
        case measure => simp [intOf]; omega
      · go_wp2_with fail
        go_ret
        exact ⟨_, rfl, Or.inr ⟨HF.out (by simp), k0⟩, rfl⟩
    · have hall : xs.any q = false := by have z := hp.out; rw [List.take_of_length_le (by omega)] at z; exact z
      have HALL := Lib.hid hall
      clear hall hp
      go_wp2_with fail
      go_ret
      exact ⟨_, rfl, Or.inl ⟨HALL.out, rfl⟩, rfl⟩
theorem contL1 (u : Value) (xs : List Int) (y0 : Value) (q : Int → Bool) (w : World) (h : ReadI w u xs) (hq : ∀ x ∈ xs, Calls Try.prog 132 #[.int .i64 x, y0] w fun e w' => e = .returned (.bool (q x)) ∧ w = w') : Calls Try.prog 118 #[u, .func (.func 132) #[] #[y0]] w fun e w' => e = .returned (.bool (xs.any q)) ∧ w = w' := by
  have HI := Lib.hid (idxL1 u xs y0 q w h hq)
  obtain ⟨t, ht⟩ : ∃ t, t = xs.any q := ⟨_, rfl⟩
  rw [← ht] at HI ⊢
  clear ht h hq
  go_enter Try.func118, Try.ntmps118
  go_wp2_with fail
  refine HI.out.mono ?_
  rintro e w' ⟨i, rfl, hi, rfl⟩
  cases t
  · have hi : i = -1 := by simpa using hi
    subst hi
    go_wp2_with fail
    go_ret
    exact ⟨rfl, rfl⟩
  · have hi : 0 ≤ i := by simpa using hi
    go_wp2_with fail
    go_ret
    exact ⟨by first | rfl | (show Ending.returned (.bool _) = _; simp [hi]), rfl⟩
def IdxEL2 (b : Bool) (W : World) (e : Ending) (w' : World) : Prop := ∃ i : Int, e = .returned (.int .i64 i) ∧ ((b = false ∧ i = -1) ∨ (b = true ∧ 0 ≤ i)) ∧ W = w'
theorem idxL2 (u : Value) (xs : List Int) (y0 y1 : Value) (q : Int → Bool) (w : World) (h : ReadI w u xs) (hq : ∀ x ∈ xs, Calls Try.prog 133 #[.int .i64 x, y0, y1] w fun e w' => e = .returned (.bool (q x)) ∧ w = w') : Calls Try.prog 134 #[u, .func (.func 133) #[] #[y0, y1]] w (IdxEL2 (xs.any q) w) := by
  obtain ⟨a, cap, rfl⟩ := readI_len h
  have hl : (xs.length : Int) ≤ 9223372036854775807 := by
    obtain ⟨_, _, e, h1, h2, _⟩ := h; have := cap_le h2; omega
  have H := Lib.hid h
  have HQ := Lib.hid hq
  clear h hq
  go_enter Try.func134, Try.ntmps134
  go_wp2_with fail
  go_loopw [8] (fun i wr => ∃ k : Nat, k ≤ xs.length ∧ i = .int .i64 k ∧ wr = w ∧ Hid ((xs.take k).any q = false)) (fun i _ => xs.length - (intOf i).toNat)
  case atStart => exact ⟨0, Nat.zero_le _, rfl, rfl, rfl⟩
  case round =>
    obtain ⟨k, hk, rfl, rfl, hp⟩ := hrel
    have k0 : (0 : Int) ≤ k := by omega
    by_cases hlt : k < xs.length
    · obtain ⟨bl, off, cp, e1, r1, r2, hbl, r4⟩ := readI_pos H.out (by omega)
      cases e1
      have k1 : (k : Int) < xs.length := by omega
      have hc := r4 k hlt
      have HF : Hid (q xs[k] = true → xs.any q = true) := fun z => List.any_eq_true.2 ⟨xs[k], List.getElem_mem hlt, z⟩
      have HT : Hid (q xs[k] = false → (xs.take (k + 1)).any q = false) := fun z => by
        rw [List.take_succ_eq_append_getElem hlt, List.any_append, hp.out]; simp [z]
      rw [List.getD_eq_getElem?_getD, List.getElem?_eq_getElem hlt, Option.getD_some] at hc
      have HQK := Lib.hid (HQ.out xs[k] (List.getElem_mem hlt))
      generalize xs[k] = x at *
      clear r4
      obtain ⟨t, ht⟩ : ∃ t, t = q x := ⟨_, rfl⟩
      rw [← ht] at HQK HF HT
      clear ht
      go_wp2_with fail
      refine HQK.out.mono ?_
      rintro e w' ⟨rfl, rfl⟩
      cases t
      · go_wp2_with fail
        go_roundw
        case rel => exact ⟨k + 1, by omega, by first | rfl | trivial | go_num, by first | trivial | rfl, HT.out (by simp)⟩
        case measure => simp [intOf]; omega
      · go_wp2_with fail
        go_ret
        exact ⟨_, rfl, Or.inr ⟨HF.out (by simp), k0⟩, rfl⟩
    · have hall : xs.any q = false := by have z := hp.out; rw [List.take_of_length_le (by omega)] at z; exact z
      have HALL := Lib.hid hall
      clear hall hp
      go_wp2_with fail
      go_ret
      exact ⟨_, rfl, Or.inl ⟨HALL.out, rfl⟩, rfl⟩
theorem contL2 (u : Value) (xs : List Int) (y0 y1 : Value) (q : Int → Bool) (w : World) (h : ReadI w u xs) (hq : ∀ x ∈ xs, Calls Try.prog 133 #[.int .i64 x, y0, y1] w fun e w' => e = .returned (.bool (q x)) ∧ w = w') : Calls Try.prog 118 #[u, .func (.func 133) #[] #[y0, y1]] w fun e w' => e = .returned (.bool (xs.any q)) ∧ w = w' := by
  have HI := Lib.hid (idxL2 u xs y0 y1 q w h hq)
  obtain ⟨t, ht⟩ : ∃ t, t = xs.any q := ⟨_, rfl⟩
  rw [← ht] at HI ⊢
  clear ht h hq
  go_enter Try.func118, Try.ntmps118
  go_wp2_with fail
  refine HI.out.mono ?_
  rintro e w' ⟨i, rfl, hi, rfl⟩
  cases t
  · have hi : i = -1 := by simpa using hi
    subst hi
    go_wp2_with fail
    go_ret
    exact ⟨rfl, rfl⟩
  · have hi : 0 ≤ i := by simpa using hi
    go_wp2_with fail
    go_ret
    exact ⟨by first | rfl | (show Ending.returned (.bool _) = _; simp [hi]), rfl⟩
def outB (f : FnM) (j : Int) : Bool := decide ((f.code.length : Int) ≤ j)
def backB (f : FnM) (k : Nat) (j : Int) : Bool := decide (j ≤ (k : Int)) && decide ((codeAt f j).op ≠ 16)
def leadM (f : FnM) (k : Nat) (on : List Int) : Int := if on.any (outB f) = true then 1 else if on.any (backB f k) = true then 6 else 0
theorem l1_any (f : FnM) (x : Int) (X : Nat) (ca : Option Addr) (cc : Nat) (w : World) (hc : w.cell? ⟨X, 3, none⟩ = some (.slice ca f.code.length cc)) (hX : X < w.heap.size) : Calls Try.prog 132 #[.int .i64 x, .pointer (some ⟨X, 0, none⟩)] w fun e w' => e = .returned (.bool (outB f x)) ∧ w = w' := by
  unfold outB
  generalize f.code.length = n at *
  go_enter Try.func132, Try.ntmps132
  go_wp2_with fail
  go_ret
  exact ⟨rfl, rfl⟩
set_option maxHeartbeats 1000000 in
theorem l2_any (f : FnM) (k : Nat) (x : Int) (X Y : Nat) (ca : Option Addr) (cc : Nat) (w : World) (hy : w.cell? ⟨Y, 0, none⟩ = some (.int .i64 k)) (hc : w.cell? ⟨X, 3, none⟩ = some (.slice ca f.code.length cc)) (hX : X < w.heap.size) (hY : Y < w.heap.size) (hr : ReadR inE w (.slice ca f.code.length cc) f.code) (hk : k < f.code.length) (h0 : 0 ≤ x) : Calls Try.prog 133 #[.int .i64 x, .pointer (some ⟨Y, 0, none⟩), .pointer (some ⟨X, 0, none⟩)] w fun e w' => e = .returned (.bool (backB f k x)) ∧ w = w' := by
  by_cases hle : x ≤ k
  · obtain ⟨j, rfl⟩ : ∃ j : Nat, x = j := ⟨x.toNat, by omega⟩
    have hj : j < f.code.length := by omega
    obtain ⟨b, o, cap, e, h1, h2, h3, h4⟩ := readR_pos hr (by omega)
    cases e
    have d0 := (in_cells h4 j hj).1
    have hcap := cap_le h2
    have hB : Hid (backB f k j = (f.code[j].op != 16)) := Lib.hid (by
      unfold backB codeAt
      rw [decide_eq_true hle, Bool.true_and, show ((j : Int).toNat) = j from rfl, List.getD_eq_getElem?_getD, List.getElem?_eq_getElem hj, Option.getD_some]
      by_cases z : f.code[j].op = 16
      · rw [z]; rfl
      · rw [decide_eq_true z, (bne_iff_ne).2 z])
    obtain ⟨q, hq⟩ : ∃ q, q = (f.code[j].op != 16) := ⟨_, rfl⟩
    have j0 : (0 : Int) ≤ j := by omega
    have j1 : (j : Int) < f.code.length := by omega
    rw [← hq] at hB
    generalize f.code[j].op = z at *
    clear h4 hr
    cases q
    · replace hq := hq.symm
      go_enter Try.func133, Try.ntmps133
      go_wp2_with fail
      go_ret
      exact ⟨by rw [hB.out]; rfl, rfl⟩
    · replace hq := hq.symm
      go_enter Try.func133, Try.ntmps133
      go_wp2_with fail
      go_ret
      exact ⟨by rw [hB.out]; rfl, rfl⟩
  · have hB : Hid (backB f k x = false) := Lib.hid (by unfold backB; rw [decide_eq_false hle]; rfl)
    clear hr
    go_enter Try.func133, Try.ntmps133
    go_wp2_with fail
    go_ret
    exact ⟨by rw [hB.out]; rfl, rfl⟩
set_option maxHeartbeats 2000000 in
theorem vleads_any (v : FnV) (f : FnM) (k : Nat) (oa : Option Addr) (oc : Nat) (on : List Int) (w : World) (h : DeepF w v f) (hk : k < f.code.length) (hon : ReadI w (.slice oa on.length oc) on) (h0 : ∀ j ∈ on, 0 ≤ j) : Calls Try.prog 112 #[aggF v, .int .i64 k, .slice oa on.length oc] w fun e w' => e = .returned (.int .i64 (leadM f k on)) ∧ Below w.heap.size w w' := by
  obtain ⟨⟨pa, pn, pc⟩, ⟨la, ln, lc⟩, r, ⟨ca, cn, cc⟩⟩ := v
  have hcr := h.c
  have hcn : cn = f.code.length := by
    obtain ⟨a', c', e, _⟩ := readR_len hcr
    have e2 : Value.slice ca cn cc = .slice a' f.code.length c' := e
    injection e2
  subst hcn
  obtain ⟨W, hW⟩ : ∃ W, W = (w.alloc (.cells #[.slice pa pn pc, .slice la ln lc, .int .i64 r, .slice ca f.code.length cc] 122)).alloc (.cells #[.int .i64 k] 3) := ⟨_, rfl⟩
  obtain ⟨q1, q2, q3⟩ := boxes2 w #[.slice pa pn pc, .slice la ln lc, .int .i64 r, .slice ca f.code.length cc] #[.int .i64 k] 122 3
  rw [← hW] at q1 q2 q3
  have c3 : W.cell? ⟨w.heap.size, 3, none⟩ = some (.slice ca f.code.length cc) := (blk4 q1).2.2.2.1
  have c0 : W.cell? ⟨w.heap.size + 1, 0, none⟩ = some (.int .i64 k) := q2.2.1 0 (by simp)
  have HC1 := Lib.hid (contL1 _ on (.pointer (some ⟨w.heap.size, 0, none⟩)) (outB f) W (readI_below hon q3) (fun x _ => l1_any f x w.heap.size ca cc W c3 q1.1))
  have HC2 := Lib.hid (contL2 _ on (.pointer (some ⟨w.heap.size + 1, 0, none⟩)) (.pointer (some ⟨w.heap.size, 0, none⟩)) (backB f k) W (readI_below hon q3) (fun x hx => l2_any f k x w.heap.size (w.heap.size + 1) ca cc W c0 c3 q1.1 q2.1 (readR_below hcr q3) hk (h0 x hx)))
  have HBW := Lib.hid q3
  obtain ⟨t1, ht1⟩ : ∃ t, t = on.any (outB f) := ⟨_, rfl⟩
  obtain ⟨t2, ht2⟩ : ∃ t, t = on.any (backB f k) := ⟨_, rfl⟩
  have HL : Hid (leadM f k on = if t1 = true then 1 else if t2 = true then 6 else 0) := Lib.hid (by rw [ht1, ht2]; rfl)
  rw [← ht1] at HC1
  rw [← ht2] at HC2
  have HW := Lib.hid hW
  unfold aggF Sl.v
  simp only
  clear h hcr hon h0 hk q1 q2 q3 c3 c0 ht1 ht2 hW
  go_enter Try.func112, Try.ntmps112
  go_upto_region 3 with fail
  refine wp_named ?_
  intro W' hW'
  obtain rfl : W' = W := hW'.trans HW.out.symm
  clear hW'
  cases t1
  · go_wp2_with fail
    refine HC1.out.mono ?_
    rintro e w1 ⟨rfl, hw1⟩
    subst hw1
    cases t2
    · go_wp2_with fail
      refine HC2.out.mono ?_
      rintro e w1 ⟨rfl, hw1⟩
      subst hw1
      go_wp2_with fail
      go_ret
      exact ⟨by rw [HL.out]; rfl, HBW.out⟩
    · go_wp2_with fail
      refine HC2.out.mono ?_
      rintro e w1 ⟨rfl, hw1⟩
      subst hw1
      go_wp2_with fail
      go_ret
      exact ⟨by rw [HL.out]; rfl, HBW.out⟩
  · go_wp2_with fail
    refine HC1.out.mono ?_
    rintro e w1 ⟨rfl, hw1⟩
    subst hw1
    go_wp2_with fail
    go_ret
    exact ⟨by rw [HL.out]; rfl, HBW.out⟩
end Go.Proofs.Ytdmidnmciaediaa
