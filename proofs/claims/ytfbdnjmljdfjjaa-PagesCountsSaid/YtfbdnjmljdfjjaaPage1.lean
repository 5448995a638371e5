/- Layer 4's tables: what they are in memory, and the contracts of the methods that read. Conditions: a table of at most 256 pages. -/
import Derived.Test.YtfbdnjmljdfjjaaRow
import Derived.Test.YtfbdnjmljdfjjaaProg
namespace Go.Proofs.Ytfbdnjmljdfjjaa
open Go.RowKit
set_option linter.unusedVariables false
set_option linter.unusedSimpArgs false
attribute [local go_sem] over_cell over_frozen
/-- A row: kind, class, owner, run. -/
structure Row4 where
  k : Int
  c : Int
  o : Int
  n : Int
instance : Inhabited Row4 := ⟨⟨0, 0, 0, 0⟩⟩
def zr : Row4 := ⟨0, 0, 0, 0⟩
def tl : Row4 := ⟨3, 0, 0, 0⟩
def cells4 (r : Row4) : List Value := [.int .i64 r.k, .int .i64 r.c, .int .i64 r.o, .int .i64 r.n]
def agg4 (r : Row4) : Value := .agg #[.int .i64 r.k, .int .i64 r.c, .int .i64 r.o, .int .i64 r.n]
def quad : Elt Row4 where
  cells := cells4
  size := 4
  pos := by decide
  len := fun _ => rfl
  one := fun r u hu => by
    simp only [cells4, List.mem_cons, List.not_mem_nil, or_false] at hu
    rcases hu with rfl | rfl | rfl | rfl <;> rfl
def isF (k : Int) : Bool := k == 1 || k == 2 || k == 4
def isZ (r : Row4) : Bool := r.k == 0 && r.c == 0 && r.o == 0 && r.n == 0
theorem rowT : IsRow Try.prog 53 36 4 32 (agg4 zr) := ⟨Try.underlying53, by kernel_rfl, by rfl⟩
def tp (b : Nat) : Value := .pointer (some ⟨b, 0, none⟩)
/-- A table at block b; its rows lie in block g. -/
structure TabAt (w : World) (b g cap : Nat) (L : List Row4) : Prop where
  hd : Blk w b [.slice (some ⟨g, 0, none⟩) L.length cap]
  rw : Blk w g (quad.row L)
  ne : b ≠ g
  le : L.length ≤ cap
  cp : cap ≤ maxLen
  mx : L.length ≤ 256
theorem tab_below {w w' : World} {b g cap : Nat} {L : List Row4} (h : TabAt w b g cap L) (hb : Below w.heap.size w w') : TabAt w' b g cap L := ⟨blk_below h.hd hb, blk_below h.rw hb, h.ne, h.le, h.cp, h.mx⟩
theorem tab_read {w : World} {b g cap : Nat} {L : List Row4} (h : TabAt w b g cap L) : ReadR quad w (.slice (some ⟨g, 0, none⟩) L.length cap) L := readR_blk h.rw h.le h.cp
theorem tab_cells {w : World} {b g cap : Nat} {L : List Row4} (h : TabAt w b g cap L) (k : Nat) (hk : k < L.length) : w.cell? ⟨g, k * 4, none⟩ = some (.int .i64 L[k].k) ∧ w.cell? ⟨g, k * 4 + 1, none⟩ = some (.int .i64 L[k].c) ∧ w.cell? ⟨g, k * 4 + 2, none⟩ = some (.int .i64 L[k].o) ∧ w.cell? ⟨g, k * 4 + 3, none⟩ = some (.int .i64 L[k].n) := by
  obtain ⟨b', o, cap', e, _, _, _, h4⟩ := readR_pos (tab_read h) (by omega)
  cases e
  have q0 := h4 k hk 0 (by decide)
  have q1 := h4 k hk 1 (by decide)
  have q2 := h4 k hk 2 (by decide)
  have q3 := h4 k hk 3 (by decide)
  rw [Nat.zero_add] at q0 q1 q2 q3
  exact ⟨q0, q1, q2, q3⟩
theorem ret_bool {a b : Bool} (h : a = b) : Ending.returned (.bool a) = .returned (.bool b) := by rw [h]
theorem free_any (r : Row4) (w : World) : Calls Try.prog 35 #[agg4 r] w fun e w' => e = .returned (.bool (isZ r)) ∧ Below w.heap.size w w' := by
  have hB := fun o => b_alloc (Below.refl w.heap.size w) o
  unfold agg4
  go_enter Try.func35, Try.ntmps35
  go_wp2_with fail
  all_goals
    go_ret
    exact ⟨ret_bool (by simp_all [isZ]), hB _⟩
theorem isF_iff (k : Int) : isF k = true ↔ k = 1 ∨ k = 2 ∨ k = 4 := by unfold isF; simp only [Bool.or_eq_true, beq_iff_eq]; omega
theorem isF_not (k : Int) : isF k = false ↔ k ≠ 1 ∧ k ≠ 2 ∧ k ≠ 4 := by unfold isF; simp only [Bool.or_eq_false_iff, beq_eq_false_iff_ne]; omega
theorem first_any (r : Row4) (w : World) : Calls Try.prog 31 #[agg4 r] w fun e w' => e = .returned (.bool (isF r.k)) ∧ Below w.heap.size w w' := by
  have hB := fun o => b_alloc (Below.refl w.heap.size w) o
  unfold agg4
  rcases (show r.k = 1 ∨ r.k = 2 ∨ r.k = 4 ∨ isF r.k = false by rw [isF_not]; omega) with h | h | h | h
  · rw [h]
    go_enter Try.func31, Try.ntmps31
    go_wp2_with fail
    go_ret
    exact ⟨rfl, hB _⟩
  · rw [h]
    go_enter Try.func31, Try.ntmps31
    go_wp2_with fail
    go_ret
    exact ⟨rfl, hB _⟩
  · rw [h]
    go_enter Try.func31, Try.ntmps31
    go_wp2_with fail
    go_ret
    exact ⟨rfl, hB _⟩
  · have h1 : (r.k == 1) = false := by rw [isF_not] at h; simpa using h.1
    have h2 : (r.k == 2) = false := by rw [isF_not] at h; simpa using h.2.1
    have h4 : (r.k == 4) = false := by rw [isF_not] at h; simpa using h.2.2
    rw [h]
    clear h
    go_enter Try.func31, Try.ntmps31
    go_wp2_with fail
    go_ret
    exact ⟨rfl, hB _⟩
theorem tlen_any {w : World} {b g cap : Nat} {L : List Row4} (h : TabAt w b g cap L) : Calls Try.prog 13 #[tp b] w fun e w' => e = .returned (.int .i64 L.length) ∧ w = w' := by
  obtain ⟨h0, hf⟩ := blk1 h.hd
  unfold tp
  clear h
  go_enter Try.func13, Try.ntmps13
  go_wp2_with fail
  go_ret
  exact ⟨rfl, rfl⟩
theorem tlen_nil (w : World) : Calls Try.prog 13 #[.pointer none] w fun e w' => e = .returned (.int .i64 0) ∧ w = w' := by
  go_enter Try.func13, Try.ntmps13
  go_wp2_with fail
  go_ret
  exact ⟨rfl, rfl⟩
def rowI (L : List Row4) (at_ : Int) : Row4 := if 0 ≤ at_ then L.getD at_.toNat zr else zr
theorem rowI_neg {L : List Row4} {a : Int} (h : a < 0) : rowI L a = zr := by unfold rowI; rw [if_neg (by omega)]
theorem rowI_out {L : List Row4} {a : Int} (h : (L.length : Int) ≤ a) : rowI L a = zr := by
  unfold rowI; split
  · rw [List.getD_eq_getElem?_getD, List.getElem?_eq_none (by omega)]; rfl
  · rfl
theorem rowI_in {L : List Row4} {k : Nat} (h : k < L.length) : rowI L (k : Int) = L[k] := by
  unfold rowI; rw [if_pos (by omega), Int.toNat_natCast, List.getD_eq_getElem?_getD, List.getElem?_eq_getElem h]; rfl
theorem trow_any {w : World} {b g cap : Nat} {L : List Row4} (h : TabAt w b g cap L) (a : Int) : Calls Try.prog 12 #[tp b, .int .i64 a] w fun e w' => e = .returned (agg4 (rowI L a)) ∧ Below w.heap.size w w' := by
  obtain ⟨h0, hf⟩ := blk1 h.hd
  have hb := h.hd.1
  have hg := h.rw.1
  have hl := fun w' (hb : Below w.heap.size w w') => tlen_any (tab_below h hb)
  have HL := Lib.hid hl; clear hl
  unfold tp at *
  rcases (show a < 0 ∨ (0 ≤ a ∧ (L.length : Int) ≤ a) ∨ ∃ k : Nat, k < L.length ∧ a = k by
    rcases (show a < 0 ∨ (0 ≤ a ∧ (L.length : Int) ≤ a) ∨ (0 ≤ a ∧ a < L.length) by omega) with q | q | q
    · exact Or.inl q
    · exact Or.inr (Or.inl q)
    · exact Or.inr (Or.inr ⟨a.toNat, by omega, by omega⟩)) with q | ⟨q1, q2⟩ | ⟨k, hk, rfl⟩
  · rw [rowI_neg q]
    clear h
    go_enter Try.func12, Try.ntmps12
    go_wp2_with fail
    exact bodyPost_ret (v := agg4 zr) (by simp [results, Try.results12, go_sem]; rfl) rfl ⟨rfl, by (try simp); (repeat' (first | exact Below.refl _ _ | assumption | refine b_alloc ?_ _ | refine b_over ?_ _ | refine b_drew ?_ | refine b_call ?_ (by assumption)))⟩
  · rw [rowI_out q2]
    clear h
    go_enter Try.func12, Try.ntmps12
    go_wp2_with fail
    refine (HL.out _ (by (repeat' (first | exact Below.refl _ _ | assumption | refine b_alloc ?_ _ | refine b_over ?_ _ | refine b_drew ?_ | refine b_call ?_ (by assumption))))).mono ?_
    rintro e w1 ⟨rfl, rfl⟩
    go_wp2_with fail
    exact bodyPost_ret (v := agg4 zr) (by simp [results, Try.results12, go_sem]; rfl) rfl ⟨rfl, by (try simp); (repeat' (first | exact Below.refl _ _ | assumption | refine b_alloc ?_ _ | refine b_over ?_ _ | refine b_drew ?_ | refine b_call ?_ (by assumption)))⟩
  · rw [rowI_in hk]
    obtain ⟨c0, c1, c2, c3⟩ := tab_cells h k hk
    have k0 : (0 : Int) ≤ k := by omega
    have k1 : (k : Int) < L.length := by omega
    generalize L[k] = r at *
    clear h
    unfold agg4
    go_enter Try.func12, Try.ntmps12
    go_wp2_with fail
    refine (HL.out _ (by (repeat' (first | exact Below.refl _ _ | assumption | refine b_alloc ?_ _ | refine b_over ?_ _ | refine b_drew ?_ | refine b_call ?_ (by assumption))))).mono ?_
    rintro e w1 ⟨rfl, rfl⟩
    go_wp2_with fail
    exact bodyPost_ret (v := agg4 r) (by simp [results, Try.results12, go_sem]; rfl) rfl ⟨rfl, by (try simp); (repeat' (first | exact Below.refl _ _ | assumption | refine b_alloc ?_ _ | refine b_over ?_ _ | refine b_drew ?_ | refine b_call ?_ (by assumption)))⟩
theorem trow_nil (a : Int) (w : World) : Calls Try.prog 12 #[.pointer none, .int .i64 a] w fun e w' => e = .returned (agg4 zr) ∧ Below w.heap.size w w' := by
  rcases (show a < 0 ∨ 0 ≤ a by omega) with q | q
  · go_enter Try.func12, Try.ntmps12
    go_wp2_with fail
    exact bodyPost_ret (v := agg4 zr) (by simp [results, Try.results12, go_sem]; rfl) rfl ⟨rfl, by (try simp); (repeat' (first | exact Below.refl _ _ | assumption | refine b_alloc ?_ _ | refine b_over ?_ _ | refine b_drew ?_ | refine b_call ?_ (by assumption)))⟩
  · go_enter Try.func12, Try.ntmps12
    go_wp2_with fail
    refine (tlen_nil _).mono ?_
    rintro e w1 ⟨rfl, rfl⟩
    go_wp2_with fail
    exact bodyPost_ret (v := agg4 zr) (by simp [results, Try.results12, go_sem]; rfl) rfl ⟨rfl, by (try simp); (repeat' (first | exact Below.refl _ _ | assumption | refine b_alloc ?_ _ | refine b_over ?_ _ | refine b_drew ?_ | refine b_call ?_ (by assumption)))⟩
def cutL (lo : Int) : Int := if lo < 0 then 0 else lo
def cutH (n lo hi : Int) : Int := if hi < n then (if hi < cutL lo then cutL lo else hi) else (if n < cutL lo then cutL lo else n)
theorem ret_int2 {a b c d : Int} (h : a = b) (h' : c = d) : Ending.returned (.tuple #[.int .i64 a, .int .i64 c]) = .returned (.tuple #[.int .i64 b, .int .i64 d]) := by rw [h, h']
theorem tcut_any {w : World} {b g cap : Nat} {L : List Row4} (h : TabAt w b g cap L) (lo hi : Int) : Calls Try.prog 30 #[tp b, .int .i64 lo, .int .i64 hi] w fun e w' => e = .returned (.tuple #[.int .i64 (cutL lo), .int .i64 (cutH L.length lo hi)]) ∧ w = w' := by
  have hl := tlen_any h
  generalize L.length = n at *
  clear h
  unfold tp at *
  go_enter Try.func30, Try.ntmps30
  go_wp2_with fail
  all_goals
    refine hl.mono ?_
    rintro e w1 ⟨rfl, rfl⟩
    go_wp2_with fail
    all_goals
      go_ret2
      exact ⟨ret_int2 (by unfold cutL; (first | rfl | (split <;> omega))) (by unfold cutH cutL; (repeat' split) <;> omega), rfl⟩
theorem tcut_nil (lo hi : Int) (w : World) : Calls Try.prog 30 #[.pointer none, .int .i64 lo, .int .i64 hi] w fun e w' => e = .returned (.tuple #[.int .i64 (cutL lo), .int .i64 (cutH 0 lo hi)]) ∧ w = w' := by
  go_enter Try.func30, Try.ntmps30
  go_wp2_with fail
  all_goals
    refine (tlen_nil _).mono ?_
    rintro e w1 ⟨rfl, rfl⟩
    go_wp2_with fail
    all_goals
      go_ret2
      exact ⟨ret_int2 (by unfold cutL; (first | rfl | (split <;> omega))) (by unfold cutH cutL; (repeat' split) <;> omega), rfl⟩
end Go.Proofs.Ytfbdnjmljdfjjaa
