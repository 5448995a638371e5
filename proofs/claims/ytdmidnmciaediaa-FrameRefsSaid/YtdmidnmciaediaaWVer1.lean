/- Layer 26: what operations take and give; what a shape takes: the program's and the document's. No conditions. Layer 26: what an instruction takes and puts, and what it makes of a stack, as plain lists. No program in sight. No conditions. Layer 26: the contracts of the document's Same, Ways, local, table, Kinds, named. Conditions: those stated. Layer 26: words for programs in memory; the document's named. Conditions: those stated. -/
import Derived.Test.YtdmidnmciaediaaWMayR25
import Derived.Test.YtdmidnmciaediaaWHeldE
import Derived.Test.YtdmidnmciaediaaWCut
namespace Go.Proofs.Ytdmidnmciaediaa
section
open Go.RowKit
set_option linter.unusedVariables false
set_option linter.unusedSimpArgs false
attribute [local go_sem] over_cell over_frozen
def takesO (op : Int) : Int := if op < 0 ∨ 19 < op then -1 else if op < 12 then 0 else 1
def givesO (op : Int) : Int := if takesO op = 1 ∧ op ≠ 16 ∧ op ≠ 17 then 1 else 0
theorem takes_any (op : Int) (w : World) : Calls Try.prog 104 #[.int .i64 op] w fun e w' => e = .returned (.int .i64 (takesO op)) ∧ w = w' := by
  have H : Hid (takesO op = if op < 0 ∨ 19 < op then -1 else if op < 12 then 0 else 1) := Lib.hid rfl
  rcases (show op < 0 ∨ (0 ≤ op ∧ 19 < op) ∨ (0 ≤ op ∧ op < 12 ∧ op ≤ 19) ∨ (0 ≤ op ∧ op ≤ 19 ∧ 12 ≤ op) by omega) with h | ⟨h, h'⟩ | ⟨h, h', h''⟩ | ⟨h, h', h''⟩
  all_goals
    go_enter Try.func104, Try.ntmps104
    go_wp2_with fail
    all_goals go_ret
    all_goals refine ⟨?_, rfl⟩
    all_goals (rw [H.out]; first | (rw [if_pos (by omega)]; rfl) | (rw [if_neg (by omega), if_pos (by omega)]; rfl) | (rw [if_neg (by omega), if_neg (by omega)]; rfl))
theorem gives_any (op : Int) (w : World) : Calls Try.prog 105 #[.int .i64 op] w fun e w' => e = .returned (.int .i64 (givesO op)) ∧ w = w' := by
  have H : Hid (givesO op = if takesO op = 1 ∧ op ≠ 16 ∧ op ≠ 17 then 1 else 0) := Lib.hid rfl
  cases ht : (takesO op == 1) with
  | false =>
    have H2 : Hid (givesO op = 0) := Lib.hid (by rw [H.out, if_neg (fun h => by rw [h.1] at ht; cases ht)])
    go_enter Try.func105, Try.ntmps105
    go_wp2_with fail
    refine (takes_any _ _).mono ?_
    rintro e w1 ⟨rfl, rfl⟩
    go_wp2_with fail
    go_ret
    exact ⟨by rw [H2.out]; first | done | rfl, rfl⟩
  | true =>
    have ht' := eq_of_beq ht
    by_cases h16 : op = 16
    · subst h16
      have H2 : Hid (givesO 16 = 0) := Lib.hid (by decide)
      clear ht'
      go_enter Try.func105, Try.ntmps105
      go_wp2_with fail
      refine (takes_any _ _).mono ?_
      rintro e w1 ⟨rfl, rfl⟩
      go_wp2_with fail
      go_ret
      exact ⟨by rw [H2.out]; first | done | rfl, rfl⟩
    · by_cases h17 : op = 17
      · subst h17
        have H2 : Hid (givesO 17 = 0) := Lib.hid (by decide)
        clear ht'
        go_enter Try.func105, Try.ntmps105
        go_wp2_with fail
        refine (takes_any _ _).mono ?_
        rintro e w1 ⟨rfl, rfl⟩
        go_wp2_with fail
        go_ret
        exact ⟨by rw [H2.out]; first | done | rfl, rfl⟩
      · have H2 : Hid (givesO op = 1) := Lib.hid (by rw [H.out, if_pos ⟨ht', h16, h17⟩])
        have n16 : (op != 16) = true := by rw [bne_iff_ne]; exact h16
        have n17 : (op != 17) = true := by rw [bne_iff_ne]; exact h17
        clear ht' h16 h17
        go_enter Try.func105, Try.ntmps105
        go_wp2_with fail
        refine (takes_any _ _).mono ?_
        rintro e w1 ⟨rfl, rfl⟩
        go_wp2_with fail
        go_ret
        exact ⟨by rw [H2.out]; first | done | rfl, rfl⟩
def utO (op : Int) : Int := if op < 0 ∨ 7 < op then -1 else if op = 2 ∨ op = 3 ∨ op = 5 ∨ op = 6 then 1 else 0
def ugO (op : Int) : Int := if op = 2 ∨ op = 3 ∨ op = 4 ∨ op = 7 then 1 else 0
theorem un_cases (op : Int) : op < 0 ∨ 7 < op ∨ op = 0 ∨ op = 1 ∨ op = 2 ∨ op = 3 ∨ op = 4 ∨ op = 5 ∨ op = 6 ∨ op = 7 := by omega
theorem utO_no {op : Int} (h : op < 0 ∨ 7 < op) : utO op = -1 := by unfold utO; rw [if_pos h]
theorem ugO_no {op : Int} (h : op < 0 ∨ 7 < op) : ugO op = 0 := by unfold ugO; rw [if_neg (by omega)]
set_option maxHeartbeats 2000000 in
theorem utakes_any (op : Int) (w : World) : Calls Try.prog 102 #[.int .i64 op] w fun e w' => e = .returned (.int .i64 (utO op)) ∧ Below w.heap.size w w' := by
  rcases un_cases op with h | h | rfl | rfl | rfl | rfl | rfl | rfl | rfl | rfl
  case inl =>
    rw [utO_no (Or.inl h)]
    go_enter Try.func102, Try.ntmps102
    go_wp2_with fail
    go_ret
    exact ⟨rfl, by (repeat' (first | exact Below.refl _ _ | assumption | refine b_alloc ?_ _ | refine b_over ?_ _ | refine b_drew ?_ | refine b_call ?_ (by assumption)))⟩
  case inr.inl =>
    have h0 : decide (op < 0) = false := by rw [decide_eq_false_iff_not]; omega
    rw [utO_no (Or.inr h)]
    clear h0
    have h0 : ¬ (op < 0) := by omega
    go_enter Try.func102, Try.ntmps102
    go_wp2_with fail
    go_ret
    exact ⟨rfl, by (repeat' (first | exact Below.refl _ _ | assumption | refine b_alloc ?_ _ | refine b_over ?_ _ | refine b_drew ?_ | refine b_call ?_ (by assumption)))⟩
  all_goals
    go_enter Try.func102, Try.ntmps102
    go_wp2_with fail
    go_ret
    exact ⟨rfl, by (repeat' (first | exact Below.refl _ _ | assumption | refine b_alloc ?_ _ | refine b_over ?_ _ | refine b_drew ?_ | refine b_call ?_ (by assumption)))⟩
set_option maxHeartbeats 2000000 in
theorem ugives_any (op : Int) (w : World) : Calls Try.prog 103 #[.int .i64 op] w fun e w' => e = .returned (.int .i64 (ugO op)) ∧ Below w.heap.size w w' := by
  rcases un_cases op with h | h | rfl | rfl | rfl | rfl | rfl | rfl | rfl | rfl
  case inl =>
    rw [ugO_no (Or.inl h)]
    go_enter Try.func103, Try.ntmps103
    go_wp2_with fail
    go_ret
    exact ⟨rfl, by (repeat' (first | exact Below.refl _ _ | assumption | refine b_alloc ?_ _ | refine b_over ?_ _ | refine b_drew ?_ | refine b_call ?_ (by assumption)))⟩
  case inr.inl =>
    have h0 : decide (op < 0) = false := by rw [decide_eq_false_iff_not]; omega
    rw [ugO_no (Or.inr h)]
    clear h0
    have h0 : ¬ (op < 0) := by omega
    go_enter Try.func103, Try.ntmps103
    go_wp2_with fail
    go_ret
    exact ⟨rfl, by (repeat' (first | exact Below.refl _ _ | assumption | refine b_alloc ?_ _ | refine b_over ?_ _ | refine b_drew ?_ | refine b_call ?_ (by assumption)))⟩
  all_goals
    go_enter Try.func103, Try.ntmps103
    go_wp2_with fail
    go_ret
    exact ⟨rfl, by (repeat' (first | exact Below.refl _ _ | assumption | refine b_alloc ?_ _ | refine b_over ?_ _ | refine b_drew ?_ | refine b_call ?_ (by assumption)))⟩
def shp (r n : Int) : Value := .agg #[.int .i64 r, .int .i64 n]
def okS (r n : Int) : Bool := decide (0 ≤ r ∧ 0 ≤ n ∧ r + n ≤ 15)
def bytS (r n : Int) : Int := if okS r n = true then 8 + 8 * r + 8 * n else 0
theorem okS_no {r n : Int} (h : ¬ (0 ≤ r ∧ 0 ≤ n ∧ r + n ≤ 15)) : okS r n = false ∧ bytS r n = 0 := by
  have e : okS r n = false := decide_eq_false h
  exact ⟨e, by unfold bytS; rw [e]; rfl⟩
theorem okS_yes {r n : Int} (h : 0 ≤ r ∧ 0 ≤ n ∧ r + n ≤ 15) : okS r n = true ∧ bytS r n = 8 + 8 * r + 8 * n := by
  have e : okS r n = true := decide_eq_true h
  exact ⟨e, by unfold bytS; rw [e]; rfl⟩
theorem rshp_any (r n : Int) (w : World) : Calls Try.prog 107 #[shp r n] w fun e w' => e = .returned (.int .i64 (bytS r n)) ∧ Below w.heap.size w w' := by
  unfold shp
  rcases (show r < 0 ∨ (0 ≤ r ∧ n < 0) ∨ (0 ≤ r ∧ 0 ≤ n ∧ 15 < r) ∨ (0 ≤ r ∧ 0 ≤ n ∧ r ≤ 15 ∧ 15 < n) ∨ (0 ≤ r ∧ 0 ≤ n ∧ r ≤ 15 ∧ n ≤ 15 ∧ 15 < r + n) ∨ (0 ≤ r ∧ 0 ≤ n ∧ r ≤ 15 ∧ n ≤ 15 ∧ r + n ≤ 15) by omega) with q | ⟨q1, q⟩ | ⟨q1, q2, q⟩ | ⟨q1, q2, q3, q⟩ | ⟨q1, q2, q3, q4, q⟩ | ⟨q1, q2, q3, q4, q⟩
  case inr.inr.inr.inr.inr =>
    rw [(okS_yes ⟨q1, q2, q⟩).2]
    go_enter Try.func107, Try.ntmps107
    go_wp2_with fail
    go_ret
    exact ⟨rfl, by (repeat' (first | exact Below.refl _ _ | assumption | refine b_alloc ?_ _ | refine b_over ?_ _ | refine b_drew ?_ | refine b_call ?_ (by assumption)))⟩
  all_goals
    rw [(okS_no (by omega)).2]
    go_enter Try.func107, Try.ntmps107
    go_wp2_with fail
    go_ret
    exact ⟨rfl, by (repeat' (first | exact Below.refl _ _ | assumption | refine b_alloc ?_ _ | refine b_over ?_ _ | refine b_drew ?_ | refine b_call ?_ (by assumption)))⟩
end
section
open Go.RowKit
set_option linter.unusedVariables false
set_option linter.unusedSimpArgs false
structure Deal where
  t : List Int
  p : List Int
  c : Int
def bad (c : Int) : Deal := ⟨[], [], c⟩
def ifNamed (ok : Bool) (d : Deal) : Deal := if ok = true then d else bad 5
def inL (l : List Int) (k : Int) : Bool := decide (0 ≤ k) && decide (k < l.length)
def atL (l : List Int) (k : Int) : Int := l.getD k.toNat 0
def fzM : FnM := ⟨[], [], 0, []⟩
def fnAtM (P : PrM) (k : Int) : FnM := P.fs.getD k.toNat fzM
def inFs (P : PrM) (k : Int) : Bool := decide (0 ≤ k) && decide (k < P.fs.length)
def topL (st : List Int) : Int := st.getD (st.length - 1) 0
def takesT : Nat → List Int
  | 0 => []
  | 1 => []
  | 2 => []
  | 3 => []
  | 4 => []
  | 5 => []
  | 6 => []
  | 7 => []
  | 8 => []
  | 9 => []
  | 10 => []
  | 11 => []
  | 12 => []
  | 13 => [0]
  | 14 => []
  | 15 => []
  | 16 => []
  | 17 => []
  | 18 => [2]
  | 19 => [2, 2]
  | 20 => [2]
  | 21 => [2, 0]
  | 22 => [2]
  | 23 => [0]
  | 24 => [3]
  | 25 => [3]
  | 26 => [3, 0]
  | 27 => [3]
  | 28 => [0]
  | 29 => [0]
  | 30 => []
  | 31 => []
  | 32 => []
  | 33 => [0]
  | 34 => [1]
  | 35 => [0]
  | 36 => [0]
  | _ => []
def putsT : Nat → List Int
  | 0 => []
  | 1 => [0]
  | 2 => [1]
  | 3 => [2]
  | 4 => []
  | 5 => []
  | 6 => []
  | 7 => []
  | 8 => []
  | 9 => []
  | 10 => []
  | 11 => []
  | 12 => []
  | 13 => []
  | 14 => []
  | 15 => []
  | 16 => []
  | 17 => [2]
  | 18 => [2]
  | 19 => []
  | 20 => [0]
  | 21 => []
  | 22 => [0]
  | 23 => [3]
  | 24 => [0]
  | 25 => [0]
  | 26 => []
  | 27 => [0]
  | 28 => [0]
  | 29 => [0]
  | 30 => []
  | 31 => []
  | 32 => []
  | 33 => []
  | 34 => []
  | 35 => []
  | 36 => [3]
  | _ => []
def dealN (P : PrM) (f : FnM) (op : Nat) (a b : Int) (st : List Int) : Deal :=
  match op with
  | 4 => ifNamed (inL (f.ps ++ f.ls) a) ⟨[], [atL (f.ps ++ f.ls) a], 0⟩
  | 5 => ifNamed (inL (f.ps ++ f.ls) a) ⟨[atL (f.ps ++ f.ls) a], [], 0⟩
  | 6 => ifNamed (inL P.gl a) ⟨[], [atL P.gl a], 0⟩
  | 7 => ifNamed (inL P.gl a) ⟨[atL P.gl a], [], 0⟩
  | 8 => if st.length = 0 then bad 2 else ⟨[topL st], [], 0⟩
  | 9 => if st.length = 0 then bad 2 else ⟨[topL st], [topL st, topL st], 0⟩
  | 10 => ifNamed (decide (0 ≤ utO a)) ⟨[utO a], [ugO a], 0⟩
  | 11 => ifNamed (decide (0 ≤ takesO a)) ⟨[takesO a, takesO a], [givesO a], 0⟩
  | 14 => ifNamed (inFs P a) ⟨(fnAtM P a).ps, [(fnAtM P a).r], 0⟩
  | 15 => ⟨[f.r], [], 0⟩
  | 17 => ifNamed (okS a b) ⟨[], [2], 0⟩
  | 28 => ifNamed (inFs P a) (if (fnAtM P a).ps = [0] ∧ (fnAtM P a).r = 0 then ⟨[0], [0], 0⟩ else bad 7)
  | 31 => ifNamed (decide (a < P.m)) ⟨[], [], 0⟩
  | 32 => ifNamed (decide (a < P.m)) ⟨[], [], 0⟩
  | 36 => if P.u = true then ⟨[0], [3], 0⟩ else bad 8
  | n => ⟨takesT n, putsT n, 0⟩
def deal (P : PrM) (f : FnM) (i : In4) (st : List Int) : Deal := dealN P f i.op.toNat i.a i.b st
def waysI (i : In4) (k : Nat) : List Int := if i.op = 12 then [i.a] else if i.op = 13 then [(k : Int) + 1, i.a] else if i.op = 15 ∨ i.op = 35 then [] else [(k : Int) + 1]
def codeAt (f : FnM) (k : Int) : In4 := f.code.getD k.toNat ⟨0, 0, 0, 0⟩
/-- What an instruction makes of a stack: the stack behind it, the ways on, what is wrong. -/
def effD (f : FnM) (i : In4) (k : Nat) (st : List Int) (D : Deal) : Deal :=
  if D.c ≠ 0 then bad D.c
  else if (st.length : Int) < D.t.length ∨ st.drop (st.length - D.t.length) ≠ D.t ∨ (i.op = 15 ∧ D.t.length < st.length) then bad 2
  else if 16 < st.length - D.t.length + D.p.length then bad 3
  else if (waysI i k).any (fun j => decide ((f.code.length : Int) ≤ j)) = true then bad 1
  else if (waysI i k).any (fun j => decide (j ≤ (k : Int)) && decide ((codeAt f j).op ≠ 16)) = true then bad 6
  else ⟨st.take (st.length - D.t.length) ++ D.p, waysI i k, 0⟩
def effect (P : PrM) (f : FnM) (k : Nat) (st : List Int) : Deal := effD f (codeAt f k) k st (deal P f (codeAt f k) st)
def RetI (w : World) (xs : List Int) (e : Ending) (w' : World) : Prop := ∃ a c, e = .returned (.slice a xs.length c) ∧ ReadI w' (.slice a xs.length c) xs ∧ Below w.heap.size w w'
/-- Three results: two lists and a number. -/
def RetD (w : World) (D : Deal) (e : Ending) (w' : World) : Prop := ∃ a c b d, e = .returned (.tuple #[.slice a D.t.length c, .slice b D.p.length d, .int .i64 D.c]) ∧ ReadI w' (.slice a D.t.length c) D.t ∧ ReadI w' (.slice b D.p.length d) D.p ∧ Below w.heap.size w w'
theorem readI_lit {w : World} (xs : List Int) {k : Nat} (hk : k = w.heap.size) (hl : xs.length ≤ 100) : ReadI (w.alloc (.cells (ints xs).toArray 3)) (.slice (some ⟨k, 0, none⟩) xs.length xs.length) xs := by
  subst hk
  refine readI_mk (Nat.le_refl _) (by unfold maxLen; omega) (by simp) (fun i hi => ?_)
  rw [Nat.zero_add, World.cell?_alloc_new, List.getElem?_toArray]
  unfold ints
  rw [List.getElem?_map, List.getElem?_eq_getElem hi, List.getD_eq_getElem?_getD, List.getElem?_eq_getElem hi]; rfl
theorem readI_row {w : World} {v : Value} {xs : List Int} (h : ReadI w v xs) : ∃ a c, v = .slice a xs.length c ∧ ReadI w (.slice a xs.length c) xs ∧ xs.length ≤ c ∧ c ≤ maxLen := by
  have h' := h
  obtain ⟨a, c, rfl, h1, h2, _⟩ := h'
  exact ⟨a, c, rfl, h, h1, h2⟩
theorem deal_plain {P : PrM} {f : FnM} {op a b : Int} {x : Int} {st : List Int} {n : Nat} (h : op = n) (h' : n ∉ [4, 5, 6, 7, 8, 9, 10, 11, 14, 15, 17, 28, 31, 32, 36]) : deal P f ⟨op, x, a, b⟩ st = ⟨takesT n, putsT n, 0⟩ := by
  subst h
  show dealN P f n a b st = _
  unfold dealN
  split <;> first | rfl | (exact absurd (by decide) h')
end
section
open Go.RowKit
set_option linter.unusedVariables false
set_option linter.unusedSimpArgs false
attribute [local go_sem] over_cell over_frozen
set_option maxHeartbeats 1000000 in
theorem rsame_any (u v : Value) (xs ys : List Int) (w : World) (h : ReadI w u xs) (h' : ReadI w v ys) (hl : xs.length ≤ 274877906944) (hl' : ys.length ≤ 274877906944) :
    Calls Try.prog 29 #[u, v] w fun e w' => e = .returned (.bool (decide (xs = ys))) ∧ Below w.heap.size w w' := by
  by_cases hn : xs.length = ys.length
  · by_cases h0 : 0 < xs.length
    · obtain ⟨b, o, cap, rfl, h1, h2, h3, h4⟩ := readI_pos h h0
      obtain ⟨b', o', cap', rfl, g1, g2, g3, g4⟩ := readI_pos h' (by omega)
      have t0 : ((xs.length : Int) != (ys.length : Int)) = false := by rw [hn]; simp
      have HN := Lib.hid hn
      have hn1 : xs.length ≤ ys.length := by omega
      have H4 := Lib.hid h4
      have G4 := Lib.hid g4
      clear h h' hn h4 g4
      go_enter Try.func29, Try.ntmps29
      go_wp2
      go_loopw [13] (fun i wr => ∃ k : Nat, k ≤ xs.length ∧ i = .int .i64 k ∧ Hid (∀ j, j < k → xs.getD j 0 = ys.getD j 0) ∧ Below w.heap.size w wr) (fun i _ => xs.length - (intOf i).toNat)
      case atStart => exact ⟨0, Nat.zero_le _, rfl, fun j hj => by omega, Below.refl _ _⟩
      case round =>
        obtain ⟨k, hk, rfl, hi, hb⟩ := hrel
        by_cases hlt : k < xs.length
        · have hc : wr.cell? ⟨b, o + k, none⟩ = some (.int .i64 (xs.getD k 0)) := (hb.cell (p := ⟨b, o + k, none⟩) h3).trans (H4.out k hlt)
          have hd : wr.cell? ⟨b', o' + k, none⟩ = some (.int .i64 (ys.getD k 0)) := (hb.cell (p := ⟨b', o' + k, none⟩) g3).trans (G4.out k (by omega))
          have k1 : (k : Int) < xs.length := by omega
          have k2 : (k : Int) < ys.length := by omega
          have k0 : (0 : Int) ≤ k := by omega
          obtain ⟨x, hx⟩ : ∃ x, x = xs.getD k 0 := ⟨_, rfl⟩
          obtain ⟨y, hy⟩ : ∃ y, y = ys.getD k 0 := ⟨_, rfl⟩
          rw [← hx] at hc; rw [← hy] at hd
          have HX := Lib.hid hx; have HY := Lib.hid hy; clear hx hy
          by_cases hxy : x = y
          · have t : (x != y) = false := by rw [hxy]; simp
            have E := Lib.hid hxy; clear hxy
            go_wp2_with fail
            go_quiet (fail)
            go_wp2
            go_roundw
            case rel =>
              refine ⟨k + 1, by omega, rfl, fun j hj => ?_, b_drewN hb _⟩
              rcases Nat.lt_or_ge j k with q | q
              · exact hi.out j q
              · have e : j = k := by omega
                rw [e, ← HX.out, ← HY.out, E.out]
            case measure => simp [intOf]; omega
          · have t : (x != y) = true := by rw [bne_iff_ne]; exact hxy
            have E := Lib.hid hxy; clear hxy
            go_wp2_with fail
            go_quiet (fail)
            go_wp2
            go_ret
            refine ⟨?_, b_drewN hb _⟩
            have hne : xs ≠ ys := fun h => E.out (by rw [HX.out, HY.out, h])
            rw [decide_eq_false hne]; rfl
        · go_wp2
          go_ret
          have he : xs = ys := eq_take HN.out (fun j hj => hi.out j (by omega))
          exact ⟨by rw [decide_eq_true he]; rfl, hb⟩
    · obtain ⟨a, cap, rfl⟩ := readI_len h
      obtain ⟨a', cap', rfl⟩ := readI_len h'
      have hx : xs = [] := List.eq_nil_of_length_eq_zero (by omega)
      have hy : ys = [] := List.eq_nil_of_length_eq_zero (by omega)
      subst hx; subst hy
      clear h h' hn h0
      go_enter Try.func29, Try.ntmps29
      go_wp2
      go_loopw [13] (fun i wr => i = .int .i64 0 ∧ Below w.heap.size w wr) (fun _ _ => 0)
      case atStart => exact ⟨rfl, Below.refl _ _⟩
      case round =>
        obtain ⟨rfl, hb⟩ := hrel
        go_wp2
        go_ret
        exact ⟨rfl, hb⟩
  · obtain ⟨a, cap, rfl⟩ := readI_len h
    obtain ⟨a', cap', rfl⟩ := readI_len h'
    have t0 : ((xs.length : Int) != (ys.length : Int)) = true := by rw [bne_iff_ne]; omega
    have hne : xs ≠ ys := fun e => hn (by rw [e])
    have HN := Lib.hid hne
    clear h h' hn hne
    go_enter Try.func29, Try.ntmps29
    go_wp2
    go_ret
    exact ⟨by rw [decide_eq_false HN.out]; rfl, Below.refl _ _⟩
theorem rways_any (op x a b : Int) (k : Nat) (hk : k < 1000) (w : World) : Calls Try.prog 42 #[.agg #[.int .i64 op, .int .u64 x, .int .i64 a, .int .i64 b], .int .i64 k] w (RetI w (waysI ⟨op, x, a, b⟩ k)) := by
  by_cases h12 : op = 12
  · subst h12
    rw [show waysI ⟨12, x, a, b⟩ k = [a] from rfl]
    go_enter Try.func42, Try.ntmps42
    go_wp2_with fail
    go_ret
    exact ⟨_, _, rfl, readI_lit [a] (by simp) (by simp), by (repeat' (first | exact Below.refl _ _ | assumption | refine b_alloc ?_ _ | refine b_over ?_ _ | refine b_drew ?_ | refine b_call ?_ (by assumption)))⟩
  · by_cases h13 : op = 13
    · subst h13
      rw [show waysI ⟨13, x, a, b⟩ k = [(k : Int) + 1, a] from rfl]
      clear h12
      go_enter Try.func42, Try.ntmps42
      go_wp2_with fail
      go_ret
      exact ⟨_, _, rfl, readI_lit [(k : Int) + 1, a] (by simp) (by simp), by (repeat' (first | exact Below.refl _ _ | assumption | refine b_alloc ?_ _ | refine b_over ?_ _ | refine b_drew ?_ | refine b_call ?_ (by assumption)))⟩
    · by_cases h15 : op = 15
      · subst h15
        rw [show waysI ⟨15, x, a, b⟩ k = [] from rfl]
        clear h12 h13
        go_enter Try.func42, Try.ntmps42
        go_wp2_with fail
        go_ret
        exact ⟨_, _, rfl, readI_nil _, by (repeat' (first | exact Below.refl _ _ | assumption | refine b_alloc ?_ _ | refine b_over ?_ _ | refine b_drew ?_ | refine b_call ?_ (by assumption)))⟩
      · by_cases h35 : op = 35
        · subst h35
          rw [show waysI ⟨35, x, a, b⟩ k = [] from rfl]
          clear h12 h13 h15
          go_enter Try.func42, Try.ntmps42
          go_wp2_with fail
          go_ret
          exact ⟨_, _, rfl, readI_nil _, by (repeat' (first | exact Below.refl _ _ | assumption | refine b_alloc ?_ _ | refine b_over ?_ _ | refine b_drew ?_ | refine b_call ?_ (by assumption)))⟩
        · rw [show waysI ⟨op, x, a, b⟩ k = [(k : Int) + 1] by unfold waysI; rw [if_neg h12, if_neg h13, if_neg (by simp only; omega)]]
          have n12 : (op == 12) = false := beq_false_of_ne h12
          have n13 : (op == 13) = false := beq_false_of_ne h13
          have n15 : (op == 15) = false := beq_false_of_ne h15
          have n35 : (op == 35) = false := beq_false_of_ne h35
          clear h12 h13 h15 h35
          go_enter Try.func42, Try.ntmps42
          go_wp2_with fail
          go_ret
          exact ⟨_, _, rfl, readI_lit [(k : Int) + 1] (by simp) (by simp), by (repeat' (first | exact Below.refl _ _ | assumption | refine b_alloc ?_ _ | refine b_over ?_ _ | refine b_drew ?_ | refine b_call ?_ (by assumption)))⟩
def kindL (l : List Int) (k : Int) : Int := if inL l k = true then atL l k else -1
set_option maxHeartbeats 1000000 in
theorem rlocal_any (v : FnV) (f : FnM) (k : Int) (w : World) (h : DeepF w v f) (h1 : f.ps.length ≤ 10) (h2 : f.ls.length ≤ 10) : Calls Try.prog 101 #[aggF v, .int .i64 k] w fun e w' => e = .returned (.int .i64 (kindL (f.ps ++ f.ls) k)) ∧ Below w.heap.size w w' := by
  obtain ⟨⟨pa, pn, pc⟩, ⟨la, ln, lc⟩, r, ⟨ca, cn, cc⟩⟩ := v
  have hp := h.p
  have hl := h.l
  obtain ⟨ps, ls, r', code⟩ := f
  clear h
  simp only at hp hl h1 h2
  obtain ⟨M, hM⟩ : ∃ M, M = ps ++ ls := ⟨_, rfl⟩
  have HM := Lib.hid hM
  have HML := Lib.hid (show M.length = ps.length + ls.length by rw [hM, List.length_append])
  have HP := Lib.hid hp; have HL := Lib.hid hl
  simp only
  rw [← hM]
  clear hM hp hl
  unfold aggF Sl.v
  simp only
  have HX := Lib.hid (blk_new w #[.slice pa pn pc, .slice la ln lc, .int .i64 r, .slice ca cn cc] 35)
  have HS : Hid (∀ w', Below (w.alloc (.cells #[.slice pa pn pc, .slice la ln lc, .int .i64 r, .slice ca cn cc] 35)).heap.size (w.alloc (.cells #[.slice pa pn pc, .slice la ln lc, .int .i64 r, .slice ca cn cc] 35)) w' → w'.cell? ⟨w.heap.size, 0, none⟩ = some (.slice pa pn pc) ∧ w'.cell? ⟨w.heap.size, 1, none⟩ = some (.slice la ln lc)) := Lib.hid (fun w' hb => by
    obtain ⟨y0, y1, _⟩ := blk4 (blk_below HX.out hb); exact ⟨y0, y1⟩)
  go_enter Try.func101, Try.ntmps101
  go_upto_region 1 with fail
  go_cut [5] (fun v wx => ∃ a8 c8, v = .slice a8 M.length c8 ∧ ReadI wx (.slice a8 M.length c8) M ∧ Below (w.alloc (.cells #[.slice pa pn pc, .slice la ln lc, .int .i64 r, .slice ca cn cc] 35)).heap.size (w.alloc (.cells #[.slice pa pn pc, .slice la ln lc, .int .i64 r, .slice ca cn cc] 35)) wx)
  case first =>
    refine wp_named ?_
    intro W hW
    have HS6 : Hid (∀ w', Below W.heap.size W w' → w'.cell? ⟨w.heap.size, 0, none⟩ = some (.slice pa pn pc) ∧ w'.cell? ⟨w.heap.size, 1, none⟩ = some (.slice la ln lc)) := by rw [hW]; exact HS
    have HPW : Hid (ReadI W (.slice pa pn pc) ps) := by rw [hW]; exact readI_below HP.out (b_alloc (Below.refl _ _) _)
    have HLW : Hid (ReadI W (.slice la ln lc) ls) := by rw [hW]; exact readI_below HL.out (b_alloc (Below.refl _ _) _)
    have HW := Lib.hid hW
    clear hW HS HX HP HL
    refine wp_region_held_drew (S := (fun w' => w'.cell? ⟨w.heap.size, 0, none⟩ = some (.slice pa pn pc) ∧ w'.cell? ⟨w.heap.size, 1, none⟩ = some (.slice la ln lc))) (by kernel_rfl) (HS6.out _ (b_drew (Below.refl _ _))) (fun hHeld => ?_)
    refine atI 1 ?_
    iterate 2 (refine takeN (v := ?_) rfl (by rfl) ?_ hHeld ?_; rotate_left; (focus (intro w hSw; (try dsimp only at hSw); go_simp; try (with_reducible rfl))); (try simp only [Act.put, Nat.reduceAdd, List.getElem_toArray, List.getElem_cons_succ, List.getElem_cons_zero, List.setIfInBounds_toArray, List.set_cons_zero, List.set_cons_succ]))
    refine atIo ?_
    refine atI 4 ?_
    iterate 2 (refine takeN (v := ?_) rfl (by rfl) ?_ hHeld ?_; rotate_left; (focus (intro w hSw; (try dsimp only at hSw); go_simp; try (with_reducible rfl))); (try simp only [Act.put, Nat.reduceAdd, List.getElem_toArray, List.getElem_cons_succ, List.getElem_cons_zero, List.setIfInBounds_toArray, List.set_cons_zero, List.set_cons_succ]))
    refine atIo ?_
    refine wpAnyH_ready (rs := [0]) (by kernel_rfl) (by simp) (AllReadyH.cons rfl (fun K hK => ?_) AllReadyH.nil)
    go_simp
    refine hK.out _ _ (HS6.out _ (b_alloc (b_drew (Below.refl _ _)) _)) (fun hHeld => ?_)
    clear hK K
    (try simp only [Act.put, List.getElem_toArray, List.getElem_cons_succ, List.getElem_cons_zero, List.setIfInBounds_toArray, List.set_cons_zero, List.set_cons_succ])
    refine wpAnyH_named ?_
    intro q1 hq1
    have hb1 : Below W.heap.size W q1 := by rw [hq1]; exact b_alloc (b_drew (Below.refl _ _)) _
    have ow1 : OwnI q1 W.heap.size (.slice (some ⟨W.heap.size, 0, none⟩) 0 0) [] := by rw [hq1]; exact own_empty (Nat.le_refl _)
    clear hq1
    replace hHeld := HS6.out _ hb1
    refine wpAnyH_ready (rs := [3]) (by kernel_rfl) (by simp) (AllReadyH.cons rfl (fun K hK => ?_) AllReadyH.nil)
    refine step_appendI (by rfl) _ _ (by rfl) W.heap.size _ [] (by rfl) ow1 _ ps (by rfl) (readI_below HPW.out hb1) (by simp; omega) hb1.size ?_
    intro v7 q7 own7 hg7
    have hb7 := b_own hb1 ow1 hg7
    have own7 : OwnI q7 W.heap.size v7 ps := own7
    obtain ⟨a7, c7, rfl⟩ := readI_len (ownI_read own7)
    clear hg7 ow1 hb1
    refine hK.out _ _ (HS6.out _ hb7) (fun hHeld => ?_)
    clear hK K
    (try simp only [Act.put, List.getElem_toArray, List.getElem_cons_succ, List.getElem_cons_zero, List.setIfInBounds_toArray, List.set_cons_zero, List.set_cons_succ])
    refine wpAnyH_ready (rs := [6]) (by kernel_rfl) (by simp) (AllReadyH.cons rfl (fun K hK => ?_) AllReadyH.nil)
    refine step_appendI (by rfl) _ _ (by rfl) W.heap.size _ ps (by rfl) own7 _ ls (by rfl) (readI_below HLW.out hb7) (by omega) hb7.size ?_
    intro v8 q8 own8 hg8
    have hb8 := b_own hb7 own7 hg8
    rw [← HM.out] at own8
    obtain ⟨a8, c8, rfl⟩ := readI_len (ownI_read own8)
    have HR8 := Lib.hid (ownI_read own8)
    have HB8 := Lib.hid hb8
    clear own7 own8 hg8 hb7
    refine hK.out _ _ (HS6.out _ hb8) (fun hHeld => ?_)
    clear hK K
    (try simp only [Act.put, List.getElem_toArray, List.getElem_cons_succ, List.getElem_cons_zero, List.setIfInBounds_toArray, List.set_cons_zero, List.set_cons_succ])
    clear hb8
    (refine wpAnyH_take (i := 7) (v := ?_) rfl (by kernel_rfl) (by kernel_rfl) (by kernel_rfl) (fun _ _ _ h => h) (Or.inl ⟨by rfl, ?_⟩) hHeld ?_; rotate_left; (focus (intro w hSw; (try dsimp only at hSw); go_simp; try (with_reducible rfl))); (try simp only [Act.put, List.getElem_toArray, List.getElem_cons_succ, List.getElem_cons_zero, List.setIfInBounds_toArray, List.set_cons_zero, List.set_cons_succ]))
    refine wpAnyH_done (by kernel_rfl) ?_ _
    go_wp2_with fail
    go_meet
    case rel => exact ⟨a8, c8, rfl, HR8.out, by have e := HW.out; subst e; exact HB8.out⟩
  case rest =>
    obtain ⟨a8, c8, rfl, hr8, hb6⟩ := hcut
    have HB := Lib.hid (b_call (b_alloc (Below.refl w.heap.size w) _) hb6)
    have hc8 := (readI_row hr8)
    obtain ⟨_, _, e8, _, hle, hmx⟩ := hc8
    cases e8
    have hmx2 := cap_le hmx
    have HR8 := Lib.hid hr8
    have hll : (M.length : Int) ≤ 20 := by have := HML.out; omega
    clear hr8 hb6
    rcases (show k < 0 ∨ (0 ≤ k ∧ (M.length : Int) ≤ k) ∨ ∃ j : Nat, k = j ∧ j < M.length by
      rcases Int.lt_or_le k 0 with q | q
      · exact Or.inl q
      · rcases Int.lt_or_le k M.length with q2 | q2
        · exact Or.inr (Or.inr ⟨k.toNat, by omega, by omega⟩)
        · exact Or.inr (Or.inl ⟨q, q2⟩)) with q | ⟨q1, q2⟩ | ⟨j, rfl, q⟩
    · have HK := Lib.hid (show kindL M k = -1 by unfold kindL inL; rw [decide_eq_false (by omega)]; rfl)
      go_wp2_with fail
      go_ret
      exact ⟨by rw [HK.out]; rfl, HB.out⟩
    · have HK := Lib.hid (show kindL M k = -1 by unfold kindL inL; rw [decide_eq_true q1, decide_eq_false (by omega)]; rfl)
      have q3 : ¬ (k < M.length) := by omega
      go_wp2_with fail
      go_ret
      exact ⟨by rw [HK.out]; rfl, HB.out⟩
    · have HK := Lib.hid (show kindL M j = M.getD j 0 by unfold kindL inL atL; rw [decide_eq_true (by omega), decide_eq_true (by omega)]; rfl)
      obtain ⟨b9, o9, c9, e9, _, _, hlt9, h9⟩ := readI_pos HR8.out (by omega)
      cases e9
      have hc := h9 j q
      have j0 : (0 : Int) ≤ j := by omega
      have j1 : (j : Int) < M.length := by omega
      clear h9
      generalize M.getD j 0 = z at *
      go_wp2_with fail
      go_ret
      exact ⟨by rw [HK.out]; rfl, HB.out⟩
def tabC : Nat → Nat
  | 0 => 0
  | 1 => 1
  | 2 => 2
  | 3 => 3
  | 4 => 0
  | 5 => 0
  | 6 => 0
  | 7 => 0
  | 8 => 0
  | 9 => 0
  | 10 => 0
  | 11 => 0
  | 12 => 0
  | 13 => 4
  | 14 => 0
  | 15 => 0
  | 16 => 0
  | 17 => 3
  | 18 => 5
  | 19 => 6
  | 20 => 7
  | 21 => 8
  | 22 => 7
  | 23 => 9
  | 24 => 10
  | 25 => 10
  | 26 => 11
  | 27 => 10
  | 28 => 12
  | 29 => 12
  | 30 => 0
  | 31 => 0
  | 32 => 0
  | 33 => 4
  | 34 => 13
  | 35 => 4
  | 36 => 9
  | _ => 0
def tabS : Nat → ByteArray
  | 0 => ⟨#[]⟩
  | 1 => ⟨#[62, 105]⟩
  | 2 => ⟨#[62, 102]⟩
  | 3 => ⟨#[62, 114]⟩
  | 4 => ⟨#[105, 62]⟩
  | 5 => ⟨#[114, 62, 114]⟩
  | 6 => ⟨#[114, 114, 62]⟩
  | 7 => ⟨#[114, 62, 105]⟩
  | 8 => ⟨#[114, 105, 62]⟩
  | 9 => ⟨#[105, 62, 112]⟩
  | 10 => ⟨#[112, 62, 105]⟩
  | 11 => ⟨#[112, 105, 62]⟩
  | 12 => ⟨#[105, 62, 105]⟩
  | 13 => ⟨#[102, 62]⟩
  | _ => ⟨#[]⟩
def tabA : Nat → ByteArray
  | 0 => ⟨#[]⟩
  | 1 => ⟨#[]⟩
  | 2 => ⟨#[]⟩
  | 3 => ⟨#[]⟩
  | 4 => ⟨#[105]⟩
  | 5 => ⟨#[114]⟩
  | 6 => ⟨#[114, 114]⟩
  | 7 => ⟨#[114]⟩
  | 8 => ⟨#[114, 105]⟩
  | 9 => ⟨#[105]⟩
  | 10 => ⟨#[112]⟩
  | 11 => ⟨#[112, 105]⟩
  | 12 => ⟨#[105]⟩
  | 13 => ⟨#[102]⟩
  | _ => ⟨#[]⟩
def tabB : Nat → ByteArray
  | 0 => ⟨#[]⟩
  | 1 => ⟨#[105]⟩
  | 2 => ⟨#[102]⟩
  | 3 => ⟨#[114]⟩
  | 4 => ⟨#[]⟩
  | 5 => ⟨#[114]⟩
  | 6 => ⟨#[]⟩
  | 7 => ⟨#[105]⟩
  | 8 => ⟨#[]⟩
  | 9 => ⟨#[112]⟩
  | 10 => ⟨#[105]⟩
  | 11 => ⟨#[]⟩
  | 12 => ⟨#[105]⟩
  | 13 => ⟨#[]⟩
  | _ => ⟨#[]⟩
theorem tab_cell (w : World) (op : Nat) (h : op < 37) : (w.alloc (.cells #[.string ⟨#[]⟩, .string ⟨#[62, 105]⟩, .string ⟨#[62, 102]⟩, .string ⟨#[62, 114]⟩, .string ⟨#[]⟩, .string ⟨#[]⟩, .string ⟨#[]⟩, .string ⟨#[]⟩, .string ⟨#[]⟩, .string ⟨#[]⟩, .string ⟨#[]⟩, .string ⟨#[]⟩, .string ⟨#[]⟩, .string ⟨#[105, 62]⟩, .string ⟨#[]⟩, .string ⟨#[]⟩, .string ⟨#[]⟩, .string ⟨#[62, 114]⟩, .string ⟨#[114, 62, 114]⟩, .string ⟨#[114, 114, 62]⟩, .string ⟨#[114, 62, 105]⟩, .string ⟨#[114, 105, 62]⟩, .string ⟨#[114, 62, 105]⟩, .string ⟨#[105, 62, 112]⟩, .string ⟨#[112, 62, 105]⟩, .string ⟨#[112, 62, 105]⟩, .string ⟨#[112, 105, 62]⟩, .string ⟨#[112, 62, 105]⟩, .string ⟨#[105, 62, 105]⟩, .string ⟨#[105, 62, 105]⟩, .string ⟨#[]⟩, .string ⟨#[]⟩, .string ⟨#[]⟩, .string ⟨#[105, 62]⟩, .string ⟨#[102, 62]⟩, .string ⟨#[105, 62]⟩, .string ⟨#[105, 62, 112]⟩] 9)).cell? ⟨w.heap.size, op, none⟩ = some (.string (tabS (tabC op))) := by
  rw [World.cell?_alloc_new]
  match op, h with
  | 0, _ => rfl
  | 1, _ => rfl
  | 2, _ => rfl
  | 3, _ => rfl
  | 4, _ => rfl
  | 5, _ => rfl
  | 6, _ => rfl
  | 7, _ => rfl
  | 8, _ => rfl
  | 9, _ => rfl
  | 10, _ => rfl
  | 11, _ => rfl
  | 12, _ => rfl
  | 13, _ => rfl
  | 14, _ => rfl
  | 15, _ => rfl
  | 16, _ => rfl
  | 17, _ => rfl
  | 18, _ => rfl
  | 19, _ => rfl
  | 20, _ => rfl
  | 21, _ => rfl
  | 22, _ => rfl
  | 23, _ => rfl
  | 24, _ => rfl
  | 25, _ => rfl
  | 26, _ => rfl
  | 27, _ => rfl
  | 28, _ => rfl
  | 29, _ => rfl
  | 30, _ => rfl
  | 31, _ => rfl
  | 32, _ => rfl
  | 33, _ => rfl
  | 34, _ => rfl
  | 35, _ => rfl
  | 36, _ => rfl
  | n + 37, h => exact absurd h (by omega)
set_option maxRecDepth 100000 in
set_option maxHeartbeats 2000000 in
theorem rtable_any (op : Nat) (h : op < 37) (w : World) : Calls Try.prog 100 #[.int .i64 op] w fun e w' => e = .returned (.tuple #[.string (tabA (tabC op)), .string (tabB (tabC op))]) ∧ Below w.heap.size w w' := by
  have d0 := tab_cell w op h
  have k0 : (0 : Int) ≤ op := by omega
  have k1 : (op : Int) < 37 := by omega
  obtain ⟨sA, hA⟩ : ∃ s, s = tabA (tabC op) := ⟨_, rfl⟩
  obtain ⟨sB, hB⟩ : ∃ s, s = tabB (tabC op) := ⟨_, rfl⟩
  rw [← hA, ← hB]
  have H := Lib.hid (And.intro hA hB)
  clear hA hB
  generalize tabC op = c at *
  clear h
  go_enter Try.func100, Try.ntmps100
  go_upto_region 3 with fail
  clear d0
  match c, H with
  | 0, H =>
    rw [show tabS 0 = ⟨#[]⟩ from rfl]
    go_wp2_with fail
    go_rounds 1
    go_ret2
    exact ⟨by rw [H.out.1, H.out.2]; rfl, by (repeat' (first | exact Below.refl _ _ | assumption | refine b_alloc ?_ _ | refine b_over ?_ _ | refine b_drew ?_ | refine b_call ?_ (by assumption)))⟩
  | 1, H =>
    rw [show tabS 1 = ⟨#[62, 105]⟩ from rfl]
    go_wp2_with fail
    go_rounds 1
    go_quiet (fail)
    go_wp2
    go_ret2
    exact ⟨by rw [H.out.1, H.out.2]; rfl, b_drewN (by (repeat' (first | exact Below.refl _ _ | assumption | refine b_alloc ?_ _ | refine b_over ?_ _ | refine b_drew ?_ | refine b_call ?_ (by assumption)))) _⟩
  | 2, H =>
    rw [show tabS 2 = ⟨#[62, 102]⟩ from rfl]
    go_wp2_with fail
    go_rounds 1
    go_quiet (fail)
    go_wp2
    go_ret2
    exact ⟨by rw [H.out.1, H.out.2]; rfl, b_drewN (by (repeat' (first | exact Below.refl _ _ | assumption | refine b_alloc ?_ _ | refine b_over ?_ _ | refine b_drew ?_ | refine b_call ?_ (by assumption)))) _⟩
  | 3, H =>
    rw [show tabS 3 = ⟨#[62, 114]⟩ from rfl]
    go_wp2_with fail
    go_rounds 1
    go_quiet (fail)
    go_wp2
    go_ret2
    exact ⟨by rw [H.out.1, H.out.2]; rfl, b_drewN (by (repeat' (first | exact Below.refl _ _ | assumption | refine b_alloc ?_ _ | refine b_over ?_ _ | refine b_drew ?_ | refine b_call ?_ (by assumption)))) _⟩
  | 4, H =>
    rw [show tabS 4 = ⟨#[105, 62]⟩ from rfl]
    go_wp2_with fail
    go_rounds 2
    go_quiet (fail)
    go_wp2
    go_ret2
    exact ⟨by rw [H.out.1, H.out.2]; rfl, b_drewN (by (repeat' (first | exact Below.refl _ _ | assumption | refine b_alloc ?_ _ | refine b_over ?_ _ | refine b_drew ?_ | refine b_call ?_ (by assumption)))) _⟩
  | 5, H =>
    rw [show tabS 5 = ⟨#[114, 62, 114]⟩ from rfl]
    go_wp2_with fail
    go_rounds 2
    go_quiet (fail)
    go_wp2
    go_ret2
    exact ⟨by rw [H.out.1, H.out.2]; rfl, b_drewN (by (repeat' (first | exact Below.refl _ _ | assumption | refine b_alloc ?_ _ | refine b_over ?_ _ | refine b_drew ?_ | refine b_call ?_ (by assumption)))) _⟩
  | 6, H =>
    rw [show tabS 6 = ⟨#[114, 114, 62]⟩ from rfl]
    go_wp2_with fail
    go_rounds 3
    go_quiet (fail)
    go_wp2
    go_ret2
    exact ⟨by rw [H.out.1, H.out.2]; rfl, b_drewN (by (repeat' (first | exact Below.refl _ _ | assumption | refine b_alloc ?_ _ | refine b_over ?_ _ | refine b_drew ?_ | refine b_call ?_ (by assumption)))) _⟩
  | 7, H =>
    rw [show tabS 7 = ⟨#[114, 62, 105]⟩ from rfl]
    go_wp2_with fail
    go_rounds 2
    go_quiet (fail)
    go_wp2
    go_ret2
    exact ⟨by rw [H.out.1, H.out.2]; rfl, b_drewN (by (repeat' (first | exact Below.refl _ _ | assumption | refine b_alloc ?_ _ | refine b_over ?_ _ | refine b_drew ?_ | refine b_call ?_ (by assumption)))) _⟩
  | 8, H =>
    rw [show tabS 8 = ⟨#[114, 105, 62]⟩ from rfl]
    go_wp2_with fail
    go_rounds 3
    go_quiet (fail)
    go_wp2
    go_ret2
    exact ⟨by rw [H.out.1, H.out.2]; rfl, b_drewN (by (repeat' (first | exact Below.refl _ _ | assumption | refine b_alloc ?_ _ | refine b_over ?_ _ | refine b_drew ?_ | refine b_call ?_ (by assumption)))) _⟩
  | 9, H =>
    rw [show tabS 9 = ⟨#[105, 62, 112]⟩ from rfl]
    go_wp2_with fail
    go_rounds 2
    go_quiet (fail)
    go_wp2
    go_ret2
    exact ⟨by rw [H.out.1, H.out.2]; rfl, b_drewN (by (repeat' (first | exact Below.refl _ _ | assumption | refine b_alloc ?_ _ | refine b_over ?_ _ | refine b_drew ?_ | refine b_call ?_ (by assumption)))) _⟩
  | 10, H =>
    rw [show tabS 10 = ⟨#[112, 62, 105]⟩ from rfl]
    go_wp2_with fail
    go_rounds 2
    go_quiet (fail)
    go_wp2
    go_ret2
    exact ⟨by rw [H.out.1, H.out.2]; rfl, b_drewN (by (repeat' (first | exact Below.refl _ _ | assumption | refine b_alloc ?_ _ | refine b_over ?_ _ | refine b_drew ?_ | refine b_call ?_ (by assumption)))) _⟩
  | 11, H =>
    rw [show tabS 11 = ⟨#[112, 105, 62]⟩ from rfl]
    go_wp2_with fail
    go_rounds 3
    go_quiet (fail)
    go_wp2
    go_ret2
    exact ⟨by rw [H.out.1, H.out.2]; rfl, b_drewN (by (repeat' (first | exact Below.refl _ _ | assumption | refine b_alloc ?_ _ | refine b_over ?_ _ | refine b_drew ?_ | refine b_call ?_ (by assumption)))) _⟩
  | 12, H =>
    rw [show tabS 12 = ⟨#[105, 62, 105]⟩ from rfl]
    go_wp2_with fail
    go_rounds 2
    go_quiet (fail)
    go_wp2
    go_ret2
    exact ⟨by rw [H.out.1, H.out.2]; rfl, b_drewN (by (repeat' (first | exact Below.refl _ _ | assumption | refine b_alloc ?_ _ | refine b_over ?_ _ | refine b_drew ?_ | refine b_call ?_ (by assumption)))) _⟩
  | 13, H =>
    rw [show tabS 13 = ⟨#[102, 62]⟩ from rfl]
    go_wp2_with fail
    go_rounds 2
    go_quiet (fail)
    go_wp2
    go_ret2
    exact ⟨by rw [H.out.1, H.out.2]; rfl, b_drewN (by (repeat' (first | exact Below.refl _ _ | assumption | refine b_alloc ?_ _ | refine b_over ?_ _ | refine b_drew ?_ | refine b_call ?_ (by assumption)))) _⟩
  | n + 14, H =>
    rw [show tabS (n + 14) = ⟨#[]⟩ from rfl]
    go_wp2_with fail
    go_rounds 1
    go_ret2
    exact ⟨by rw [H.out.1, H.out.2]; rfl, by (repeat' (first | exact Below.refl _ _ | assumption | refine b_alloc ?_ _ | refine b_over ?_ _ | refine b_drew ?_ | refine b_call ?_ (by assumption)))⟩
theorem rkinds_0 (w : World) : Calls Try.prog 108 #[.string ⟨#[]⟩] w (RetI w []) := by
  go_enter Try.func108, Try.ntmps108
  go_wp2_with fail
  go_loopw [3, 4] (fun v i wr => ∃ j : Nat, j ≤ 0 ∧ i = .int .i64 j ∧ OwnI wr w.heap.size v (List.take j []) ∧ Below w.heap.size w wr) (fun _ i _ => 0 - (intOf i).toNat)
  case atStart => exact ⟨0, by omega, rfl, ownI_nil _ _, Below.refl _ _⟩
  case round =>
    obtain ⟨j, hj, rfl, own, hb⟩ := hrel
    have hbs := hb.size
    rcases (show j = 0 by omega) with rfl
    · obtain ⟨a, c, rfl⟩ := readI_len (ownI_read own)
      go_wp2_with fail
      go_ret
      exact ⟨a, c, rfl, ownI_read own, hb⟩
theorem rkinds_i (w : World) : Calls Try.prog 108 #[.string ⟨#[105]⟩] w (RetI w [0]) := by
  go_enter Try.func108, Try.ntmps108
  go_wp2_with fail
  go_loopw [3, 4] (fun v i wr => ∃ j : Nat, j ≤ 1 ∧ i = .int .i64 j ∧ OwnI wr w.heap.size v (List.take j [0]) ∧ Below w.heap.size w wr) (fun _ i _ => 1 - (intOf i).toNat)
  case atStart => exact ⟨0, by omega, rfl, ownI_nil _ _, Below.refl _ _⟩
  case round =>
    obtain ⟨j, hj, rfl, own, hb⟩ := hrel
    have hbs := hb.size
    rcases (show j = 0 ∨ j = 1 by omega) with rfl | rfl
    · go_wp2_with (at_builtin; refine appendI rfl _ _ rfl w.heap.size _ (List.take 0 [0]) rfl (ownI_alloc own _) _ [0] rfl (read_one wr 0) ?c1 ?c2 ?_; (case c1 => (simp)); (case c2 => (simp; omega)); intro v3 w3 own3 hg3)
      go_roundw
      case rel => exact ⟨1, by omega, rfl, own3, b_own (b_alloc hb _) (ownI_alloc own _) hg3⟩
      case measure => simp [intOf]
    · obtain ⟨a, c, rfl⟩ := readI_len (ownI_read own)
      go_wp2_with fail
      go_ret
      exact ⟨a, c, rfl, ownI_read own, hb⟩
theorem rkinds_f (w : World) : Calls Try.prog 108 #[.string ⟨#[102]⟩] w (RetI w [1]) := by
  go_enter Try.func108, Try.ntmps108
  go_wp2_with fail
  go_loopw [3, 4] (fun v i wr => ∃ j : Nat, j ≤ 1 ∧ i = .int .i64 j ∧ OwnI wr w.heap.size v (List.take j [1]) ∧ Below w.heap.size w wr) (fun _ i _ => 1 - (intOf i).toNat)
  case atStart => exact ⟨0, by omega, rfl, ownI_nil _ _, Below.refl _ _⟩
  case round =>
    obtain ⟨j, hj, rfl, own, hb⟩ := hrel
    have hbs := hb.size
    rcases (show j = 0 ∨ j = 1 by omega) with rfl | rfl
    · go_wp2_with (at_builtin; refine appendI rfl _ _ rfl w.heap.size _ (List.take 0 [1]) rfl (ownI_alloc own _) _ [1] rfl (read_one wr 1) ?c1 ?c2 ?_; (case c1 => (simp)); (case c2 => (simp; omega)); intro v3 w3 own3 hg3)
      go_roundw
      case rel => exact ⟨1, by omega, rfl, own3, b_own (b_alloc hb _) (ownI_alloc own _) hg3⟩
      case measure => simp [intOf]
    · obtain ⟨a, c, rfl⟩ := readI_len (ownI_read own)
      go_wp2_with fail
      go_ret
      exact ⟨a, c, rfl, ownI_read own, hb⟩
theorem rkinds_r (w : World) : Calls Try.prog 108 #[.string ⟨#[114]⟩] w (RetI w [2]) := by
  go_enter Try.func108, Try.ntmps108
  go_wp2_with fail
  go_loopw [3, 4] (fun v i wr => ∃ j : Nat, j ≤ 1 ∧ i = .int .i64 j ∧ OwnI wr w.heap.size v (List.take j [2]) ∧ Below w.heap.size w wr) (fun _ i _ => 1 - (intOf i).toNat)
  case atStart => exact ⟨0, by omega, rfl, ownI_nil _ _, Below.refl _ _⟩
  case round =>
    obtain ⟨j, hj, rfl, own, hb⟩ := hrel
    have hbs := hb.size
    rcases (show j = 0 ∨ j = 1 by omega) with rfl | rfl
    · go_wp2_with (at_builtin; refine appendI rfl _ _ rfl w.heap.size _ (List.take 0 [2]) rfl (ownI_alloc own _) _ [2] rfl (read_one wr 2) ?c1 ?c2 ?_; (case c1 => (simp)); (case c2 => (simp; omega)); intro v3 w3 own3 hg3)
      go_roundw
      case rel => exact ⟨1, by omega, rfl, own3, b_own (b_alloc hb _) (ownI_alloc own _) hg3⟩
      case measure => simp [intOf]
    · obtain ⟨a, c, rfl⟩ := readI_len (ownI_read own)
      go_wp2_with fail
      go_ret
      exact ⟨a, c, rfl, ownI_read own, hb⟩
theorem rkinds_rr (w : World) : Calls Try.prog 108 #[.string ⟨#[114, 114]⟩] w (RetI w [2, 2]) := by
  go_enter Try.func108, Try.ntmps108
  go_wp2_with fail
  go_loopw [3, 4] (fun v i wr => ∃ j : Nat, j ≤ 2 ∧ i = .int .i64 j ∧ OwnI wr w.heap.size v (List.take j [2, 2]) ∧ Below w.heap.size w wr) (fun _ i _ => 2 - (intOf i).toNat)
  case atStart => exact ⟨0, by omega, rfl, ownI_nil _ _, Below.refl _ _⟩
  case round =>
    obtain ⟨j, hj, rfl, own, hb⟩ := hrel
    have hbs := hb.size
    rcases (show j = 0 ∨ j = 1 ∨ j = 2 by omega) with rfl | rfl | rfl
    · go_wp2_with (at_builtin; refine appendI rfl _ _ rfl w.heap.size _ (List.take 0 [2, 2]) rfl (ownI_alloc own _) _ [2] rfl (read_one wr 2) ?c1 ?c2 ?_; (case c1 => (simp)); (case c2 => (simp; omega)); intro v3 w3 own3 hg3)
      go_roundw
      case rel => exact ⟨1, by omega, rfl, own3, b_own (b_alloc hb _) (ownI_alloc own _) hg3⟩
      case measure => simp [intOf]
    · go_wp2_with (at_builtin; refine appendI rfl _ _ rfl w.heap.size _ (List.take 1 [2, 2]) rfl (ownI_alloc own _) _ [2] rfl (read_one wr 2) ?c1 ?c2 ?_; (case c1 => (simp)); (case c2 => (simp; omega)); intro v3 w3 own3 hg3)
      go_roundw
      case rel => exact ⟨2, by omega, rfl, own3, b_own (b_alloc hb _) (ownI_alloc own _) hg3⟩
      case measure => simp [intOf]
    · obtain ⟨a, c, rfl⟩ := readI_len (ownI_read own)
      go_wp2_with fail
      go_ret
      exact ⟨a, c, rfl, ownI_read own, hb⟩
theorem rkinds_ri (w : World) : Calls Try.prog 108 #[.string ⟨#[114, 105]⟩] w (RetI w [2, 0]) := by
  go_enter Try.func108, Try.ntmps108
  go_wp2_with fail
  go_loopw [3, 4] (fun v i wr => ∃ j : Nat, j ≤ 2 ∧ i = .int .i64 j ∧ OwnI wr w.heap.size v (List.take j [2, 0]) ∧ Below w.heap.size w wr) (fun _ i _ => 2 - (intOf i).toNat)
  case atStart => exact ⟨0, by omega, rfl, ownI_nil _ _, Below.refl _ _⟩
  case round =>
    obtain ⟨j, hj, rfl, own, hb⟩ := hrel
    have hbs := hb.size
    rcases (show j = 0 ∨ j = 1 ∨ j = 2 by omega) with rfl | rfl | rfl
    · go_wp2_with (at_builtin; refine appendI rfl _ _ rfl w.heap.size _ (List.take 0 [2, 0]) rfl (ownI_alloc own _) _ [2] rfl (read_one wr 2) ?c1 ?c2 ?_; (case c1 => (simp)); (case c2 => (simp; omega)); intro v3 w3 own3 hg3)
      go_roundw
      case rel => exact ⟨1, by omega, rfl, own3, b_own (b_alloc hb _) (ownI_alloc own _) hg3⟩
      case measure => simp [intOf]
    · go_wp2_with (at_builtin; refine appendI rfl _ _ rfl w.heap.size _ (List.take 1 [2, 0]) rfl (ownI_alloc own _) _ [0] rfl (read_one wr 0) ?c1 ?c2 ?_; (case c1 => (simp)); (case c2 => (simp; omega)); intro v3 w3 own3 hg3)
      go_roundw
      case rel => exact ⟨2, by omega, rfl, own3, b_own (b_alloc hb _) (ownI_alloc own _) hg3⟩
      case measure => simp [intOf]
    · obtain ⟨a, c, rfl⟩ := readI_len (ownI_read own)
      go_wp2_with fail
      go_ret
      exact ⟨a, c, rfl, ownI_read own, hb⟩
theorem rkinds_p (w : World) : Calls Try.prog 108 #[.string ⟨#[112]⟩] w (RetI w [3]) := by
  go_enter Try.func108, Try.ntmps108
  go_wp2_with fail
  go_loopw [3, 4] (fun v i wr => ∃ j : Nat, j ≤ 1 ∧ i = .int .i64 j ∧ OwnI wr w.heap.size v (List.take j [3]) ∧ Below w.heap.size w wr) (fun _ i _ => 1 - (intOf i).toNat)
  case atStart => exact ⟨0, by omega, rfl, ownI_nil _ _, Below.refl _ _⟩
  case round =>
    obtain ⟨j, hj, rfl, own, hb⟩ := hrel
    have hbs := hb.size
    rcases (show j = 0 ∨ j = 1 by omega) with rfl | rfl
    · go_wp2_with (at_builtin; refine appendI rfl _ _ rfl w.heap.size _ (List.take 0 [3]) rfl (ownI_alloc own _) _ [3] rfl (read_one wr 3) ?c1 ?c2 ?_; (case c1 => (simp)); (case c2 => (simp; omega)); intro v3 w3 own3 hg3)
      go_roundw
      case rel => exact ⟨1, by omega, rfl, own3, b_own (b_alloc hb _) (ownI_alloc own _) hg3⟩
      case measure => simp [intOf]
    · obtain ⟨a, c, rfl⟩ := readI_len (ownI_read own)
      go_wp2_with fail
      go_ret
      exact ⟨a, c, rfl, ownI_read own, hb⟩
theorem rkinds_pi (w : World) : Calls Try.prog 108 #[.string ⟨#[112, 105]⟩] w (RetI w [3, 0]) := by
  go_enter Try.func108, Try.ntmps108
  go_wp2_with fail
  go_loopw [3, 4] (fun v i wr => ∃ j : Nat, j ≤ 2 ∧ i = .int .i64 j ∧ OwnI wr w.heap.size v (List.take j [3, 0]) ∧ Below w.heap.size w wr) (fun _ i _ => 2 - (intOf i).toNat)
  case atStart => exact ⟨0, by omega, rfl, ownI_nil _ _, Below.refl _ _⟩
  case round =>
    obtain ⟨j, hj, rfl, own, hb⟩ := hrel
    have hbs := hb.size
    rcases (show j = 0 ∨ j = 1 ∨ j = 2 by omega) with rfl | rfl | rfl
    · go_wp2_with (at_builtin; refine appendI rfl _ _ rfl w.heap.size _ (List.take 0 [3, 0]) rfl (ownI_alloc own _) _ [3] rfl (read_one wr 3) ?c1 ?c2 ?_; (case c1 => (simp)); (case c2 => (simp; omega)); intro v3 w3 own3 hg3)
      go_roundw
      case rel => exact ⟨1, by omega, rfl, own3, b_own (b_alloc hb _) (ownI_alloc own _) hg3⟩
      case measure => simp [intOf]
    · go_wp2_with (at_builtin; refine appendI rfl _ _ rfl w.heap.size _ (List.take 1 [3, 0]) rfl (ownI_alloc own _) _ [0] rfl (read_one wr 0) ?c1 ?c2 ?_; (case c1 => (simp)); (case c2 => (simp; omega)); intro v3 w3 own3 hg3)
      go_roundw
      case rel => exact ⟨2, by omega, rfl, own3, b_own (b_alloc hb _) (ownI_alloc own _) hg3⟩
      case measure => simp [intOf]
    · obtain ⟨a, c, rfl⟩ := readI_len (ownI_read own)
      go_wp2_with fail
      go_ret
      exact ⟨a, c, rfl, ownI_read own, hb⟩
end
section
open Go.RowKit
set_option linter.unusedVariables false
set_option linter.unusedSimpArgs false
attribute [local go_sem] over_cell over_frozen
theorem fn_at {w : World} {p : PrV} {P : PrM} (h : ReadP w p P) {k : Nat} (hk : k < P.fs.length) : ∃ b o, p.f.a = some ⟨b, o, none⟩ ∧ b < w.heap.size ∧ ∃ v : FnV, DeepF w v P.fs[k] ∧ w.cell? ⟨b, o + k * 4, none⟩ = some (.slice v.p.a v.p.n v.p.c) ∧ w.cell? ⟨b, o + k * 4 + 1, none⟩ = some (.slice v.l.a v.l.n v.l.c) ∧ w.cell? ⟨b, o + k * 4 + 2, none⟩ = some (.int .i64 P.fs[k].r) ∧ w.cell? ⟨b, o + k * 4 + 3, none⟩ = some (.slice v.c.a v.c.n v.c.c) := by
  obtain ⟨Lf, hr, hA⟩ := h.f
  have hlen := allF_len hA
  obtain ⟨b, o, cap, e, h1, h2, h3, h4⟩ := readR_pos hr (by omega)
  have e1 : p.f.a = some ⟨b, o, none⟩ := by
    have e2 : Value.slice p.f.a p.f.n p.f.c = .slice (some ⟨b, o, none⟩) Lf.length cap := e
    injection e2
  have hd := allF_at hA k (by omega) hk
  obtain ⟨c0, c1, c2, c3⟩ := fn_cells h4 k (by omega)
  exact ⟨b, o, e1, h3, Lf[k], hd, c0, c1, by rw [← hd.r]; exact c2, c3⟩
theorem fn_len {w : World} {p : PrV} {P : PrM} (h : ReadP w p P) : p.f.n = P.fs.length ∧ P.fs.length ≤ p.f.c ∧ p.f.c ≤ 9223372036854775807 := by
  obtain ⟨Lf, hr, hA⟩ := h.f
  have hlen := allF_len hA
  obtain ⟨a, cap, e, e2, e3⟩ := readR_len hr
  have e4 : Value.slice p.f.a p.f.n p.f.c = .slice a Lf.length cap := e
  injection e4 with _ e5 e6
  rw [e6, ← hlen]; exact ⟨e5, e2, cap_le e3⟩
theorem int_len {w : World} {s : Sl} {xs : List Int} (h : ReadI w s.v xs) : s.n = xs.length ∧ xs.length ≤ s.c ∧ s.c ≤ 9223372036854775807 := by
  obtain ⟨a, c, e, _, h1, h2⟩ := readI_row h
  have e4 : Value.slice s.a s.n s.c = .slice a xs.length c := e
  injection e4 with _ e5 e6
  rw [e6]; exact ⟨e5, h1, cap_le h2⟩
theorem int_at {w : World} {s : Sl} {xs : List Int} (h : ReadI w s.v xs) {k : Nat} (hk : k < xs.length) : ∃ b o, s.a = some ⟨b, o, none⟩ ∧ b < w.heap.size ∧ w.cell? ⟨b, o + k, none⟩ = some (.int .i64 (xs.getD k 0)) := by
  obtain ⟨b, o, c, e, _, _, h3, h4⟩ := readI_pos h (by omega)
  have e4 : Value.slice s.a s.n s.c = .slice (some ⟨b, o, none⟩) xs.length c := e
  injection e4 with e5
  exact ⟨b, o, e5, h3, h4 k hk⟩
theorem boxes2 (w : World) (c1 c2 : Array Value) (T1 T2 : TypeId) : Blk ((w.alloc (.cells c1 T1)).alloc (.cells c2 T2)) w.heap.size c1.toList ∧ Blk ((w.alloc (.cells c1 T1)).alloc (.cells c2 T2)) (w.heap.size + 1) c2.toList ∧ Below w.heap.size w ((w.alloc (.cells c1 T1)).alloc (.cells c2 T2)) := by
  refine ⟨blk_alloc (blk_new w c1 T1) _, ?_, b_alloc (b_alloc (Below.refl _ _) _) _⟩
  have q := blk_new (w.alloc (.cells c1 T1)) c2 T2
  rw [World.size_alloc] at q; exact q
theorem boxes3 (w : World) (c1 c2 c3 : Array Value) (T1 T2 T3 : TypeId) : Blk (((w.alloc (.cells c1 T1)).alloc (.cells c2 T2)).alloc (.cells c3 T3)) w.heap.size c1.toList ∧ Blk (((w.alloc (.cells c1 T1)).alloc (.cells c2 T2)).alloc (.cells c3 T3)) (w.heap.size + 1) c2.toList ∧ Blk (((w.alloc (.cells c1 T1)).alloc (.cells c2 T2)).alloc (.cells c3 T3)) (w.heap.size + 2) c3.toList ∧ Below w.heap.size w (((w.alloc (.cells c1 T1)).alloc (.cells c2 T2)).alloc (.cells c3 T3)) := by
  obtain ⟨q1, q2, q3⟩ := boxes2 w c1 c2 T1 T2
  refine ⟨blk_alloc q1 _, blk_alloc q2 _, ?_, b_alloc q3 _⟩
  have q := blk_new ((w.alloc (.cells c1 T1)).alloc (.cells c2 T2)) c3 T3
  rw [World.size_alloc, World.size_alloc] at q; exact q
theorem inFs_cases (P : PrM) {a : Int} (ha : 0 ≤ a) : (inFs P a = false ∧ (P.fs.length : Int) ≤ a) ∨ (∃ k : Nat, a = k ∧ ∃ h : k < P.fs.length, inFs P a = true ∧ fnAtM P a = P.fs[k]) := by
  rcases Int.lt_or_le a P.fs.length with q | q
  · refine Or.inr ⟨a.toNat, by omega, by omega, by unfold inFs; rw [decide_eq_true ha, decide_eq_true q]; rfl, ?_⟩
    unfold fnAtM
    rw [List.getD_eq_getElem?_getD, List.getElem?_eq_getElem (by omega)]; rfl
  · exact Or.inl ⟨by unfold inFs; rw [decide_eq_false (by omega : ¬ a < P.fs.length)]; simp, q⟩
set_option maxHeartbeats 1000000 in
theorem rnamed14 (p : PrV) (P : PrM) (x a b : Int) (w : World) (h : ReadP w p P) (hs : SmallP P) (ha : 0 ≤ a) : Calls Try.prog 106 #[aggP p, .agg #[.int .i64 14, .int .u64 x, .int .i64 a, .int .i64 b]] w (RetD w (ifNamed (inFs P a) ⟨(fnAtM P a).ps, [(fnAtM P a).r], 0⟩)) := by
  obtain ⟨n1, n2, n3⟩ := fn_len h
  have HR := Lib.hid h
  have HS := Lib.hid hs
  rcases inFs_cases P ha with ⟨hin, hge⟩ | ⟨k, rfl, hk, hin, hfn⟩
  · rw [hin]
    obtain ⟨u, ⟨ga, gn, gc⟩, m, ⟨fa, fn, fc⟩⟩ := p
    simp only at n1 n2 n3
    subst n1
    have hno : ¬ (a < P.fs.length) := by omega
    show Calls _ _ _ _ (RetD w (bad 5))
    unfold aggP Sl.v
    simp only
    clear h hs hin
    go_enter Try.func106, Try.ntmps106
    go_wp2_with fail
    go_ret3
    exact ⟨none, 0, none, 0, rfl, readI_nil _, readI_nil _, by (repeat' (first | exact Below.refl _ _ | assumption | refine b_alloc ?_ _ | refine b_over ?_ _ | refine b_drew ?_ | refine b_call ?_ (by assumption)))⟩
  · rw [hin, hfn]
    show Calls _ _ _ _ (RetD w ((⟨(P.fs[k]).ps, [(P.fs[k]).r], 0⟩ : Deal)))
    obtain ⟨bb, oo, ea, hlt, v, hd, d0, d1, d2, d3⟩ := fn_at h hk
    have HD := Lib.hid hd
    have hsm := (hs.a _ (List.getElem_mem hk)).p
    obtain ⟨u, ⟨ga, gn, gc⟩, m, ⟨fa, fn, fc⟩⟩ := p
    simp only at n1 n2 n3 ea
    subst n1 ea
    obtain ⟨⟨pa, pn, pc⟩, ⟨la, ln, lc⟩, r, ⟨ca, cn, cc⟩⟩ := v
    obtain ⟨e1, e2, e3⟩ := int_len hd.p
    have hdp := hd.p
    simp only at e1 e2 e3 d0 d1 d2 d3
    have k0 : (0 : Int) ≤ k := by omega
    have k1 : (k : Int) < P.fs.length := by omega
    have k2 : k < fc := by omega
    generalize P.fs[k] = f at *
    subst e1
    have HP := Lib.hid hdp
    unfold aggP Sl.v
    simp only
    clear h hs hin hfn hd
    clear hdp
    go_enter Try.func106, Try.ntmps106
    go_upto_region 5 with fail
    go_region
    all_goals
      go_wp2_with fail
      go_ret3
      exact ⟨pa, pc, _, _, rfl, readI_below HP.out (by (repeat' (first | exact Below.refl _ _ | assumption | refine b_alloc ?_ _ | refine b_over ?_ _ | refine b_drew ?_ | refine b_call ?_ (by assumption)))), readI_lit [f.r] (by simp) (by simp), by (repeat' (first | exact Below.refl _ _ | assumption | refine b_alloc ?_ _ | refine b_over ?_ _ | refine b_drew ?_ | refine b_call ?_ (by assumption)))⟩
set_option maxHeartbeats 1000000 in
theorem rnamed28 (p : PrV) (P : PrM) (x a b : Int) (w : World) (h : ReadP w p P) (hs : SmallP P) (ha : 0 ≤ a) : Calls Try.prog 106 #[aggP p, .agg #[.int .i64 28, .int .u64 x, .int .i64 a, .int .i64 b]] w (RetD w (ifNamed (inFs P a) (if (fnAtM P a).ps = [0] ∧ (fnAtM P a).r = 0 then ⟨[0], [0], 0⟩ else bad 7))) := by
  obtain ⟨n1, n2, n3⟩ := fn_len h
  have HR := Lib.hid h
  have HS := Lib.hid hs
  rcases inFs_cases P ha with ⟨hin, hge⟩ | ⟨k, rfl, hk, hin, hfn⟩
  · rw [hin]
    obtain ⟨u, ⟨ga, gn, gc⟩, m, ⟨fa, fn, fc⟩⟩ := p
    simp only at n1 n2 n3
    subst n1
    have hno : ¬ (a < P.fs.length) := by omega
    show Calls _ _ _ _ (RetD w (bad 5))
    unfold aggP Sl.v
    simp only
    clear h hs hin
    go_enter Try.func106, Try.ntmps106
    go_wp2_with fail
    go_ret3
    exact ⟨none, 0, none, 0, rfl, readI_nil _, readI_nil _, by (repeat' (first | exact Below.refl _ _ | assumption | refine b_alloc ?_ _ | refine b_over ?_ _ | refine b_drew ?_ | refine b_call ?_ (by assumption)))⟩
  · rw [hin, hfn]
    show Calls _ _ _ _ (RetD w (if (P.fs[k]).ps = [0] ∧ (P.fs[k]).r = 0 then ⟨[0], [0], 0⟩ else bad 7))
    obtain ⟨bb, oo, ea, hlt, v, hd, d0, d1, d2, d3⟩ := fn_at h hk
    have HD := Lib.hid hd
    have hsm := (hs.a _ (List.getElem_mem hk)).p
    obtain ⟨u, ⟨ga, gn, gc⟩, m, ⟨fa, fn, fc⟩⟩ := p
    simp only at n1 n2 n3 ea
    subst n1 ea
    obtain ⟨⟨pa, pn, pc⟩, ⟨la, ln, lc⟩, r, ⟨ca, cn, cc⟩⟩ := v
    obtain ⟨e1, e2, e3⟩ := int_len hd.p
    have hdp := hd.p
    simp only at e1 e2 e3 d0 d1 d2 d3
    have k0 : (0 : Int) ≤ k := by omega
    have k1 : (k : Int) < P.fs.length := by omega
    have k2 : k < fc := by omega
    generalize P.fs[k] = f at *
    subst e1
    have HP := Lib.hid hdp
    unfold aggP Sl.v
    simp only
    clear h hs hin hfn hd
    by_cases hp : f.ps = [0]
    · rw [hp] at hdp
      obtain ⟨b9, o9, c9, e9, _, _, hlt9, h9⟩ := readI_pos hdp (by simp)
      have e10 : f.ps.length = 1 := by rw [hp]; rfl
      rw [e10] at d0
      have e11 : pa = some ⟨b9, o9, none⟩ := by injection e9
      rw [e11] at d0
      have hc := h9 0 (by simp)
      simp only [Nat.add_zero, List.getD_cons_zero] at hc
      have hx1 : b9 < w.heap.size + 1 := by omega
      have hx2 : b9 < w.heap.size + 1 + 1 := by omega
      have hpc : 1 ≤ pc := by rw [← e10]; exact e2
      by_cases hr : f.r = 0
      · rw [if_pos ⟨hp, hr⟩]
        rw [hr] at d2
        clear h9 e9 hdp e10 e11 hp hr HD HP
        go_enter Try.func106, Try.ntmps106
        go_wp2_with fail
        go_ret3
        exact ⟨_, _, _, _, rfl, readI_below (readI_lit [0] (by simp) (by simp)) (b_alloc (Below.refl _ _) _), readI_lit [0] (by simp) (by simp), by (repeat' (first | exact Below.refl _ _ | assumption | refine b_alloc ?_ _ | refine b_over ?_ _ | refine b_drew ?_ | refine b_call ?_ (by assumption)))⟩
      · rw [if_neg (fun q => hr q.2)]
        have hr2 : (f.r != 0) = true := by rw [bne_iff_ne]; exact hr
        clear h9 e9 hdp e10 e11 hp hr HD HP
        go_enter Try.func106, Try.ntmps106
        go_wp2_with fail
        go_ret3
        exact ⟨none, 0, none, 0, rfl, readI_nil _, readI_nil _, by (repeat' (first | exact Below.refl _ _ | assumption | refine b_alloc ?_ _ | refine b_over ?_ _ | refine b_drew ?_ | refine b_call ?_ (by assumption)))⟩
    · rw [if_neg (fun q => hp q.1)]
      by_cases hl : f.ps.length = 1
      · obtain ⟨y, hy⟩ : ∃ y, f.ps = [y] := by
          match hq : f.ps, hl with
          | [y], _ => exact ⟨y, rfl⟩
        rw [hy] at hdp
        obtain ⟨b9, o9, c9, e9, _, _, hlt9, h9⟩ := readI_pos hdp (by simp)
        rw [hl] at d0
        have e11 : pa = some ⟨b9, o9, none⟩ := by injection e9
        rw [e11] at d0
        have hc := h9 0 (by simp)
        simp only [Nat.add_zero, List.getD_cons_zero] at hc
        have hx1 : b9 < w.heap.size + 1 := by omega
        have hx2 : b9 < w.heap.size + 1 + 1 := by omega
        have hpc : 1 ≤ pc := by rw [← hl]; exact e2
        have hy0 : y ≠ 0 := fun e => hp (by rw [hy, e])
        have hy2 : (y != 0) = true := by rw [bne_iff_ne]; exact hy0
        clear h9 e9 hdp hl e11 hp HD HP hy hy0
        go_enter Try.func106, Try.ntmps106
        go_wp2_with fail
        go_ret3
        exact ⟨none, 0, none, 0, rfl, readI_nil _, readI_nil _, by (repeat' (first | exact Below.refl _ _ | assumption | refine b_alloc ?_ _ | refine b_over ?_ _ | refine b_drew ?_ | refine b_call ?_ (by assumption)))⟩
      · have hl2 : ((f.ps.length : Int) != 1) = true := by rw [bne_iff_ne]; omega
        clear hdp hl hp HD HP
        go_enter Try.func106, Try.ntmps106
        go_wp2_with fail
        go_ret3
        exact ⟨none, 0, none, 0, rfl, readI_nil _, readI_nil _, by (repeat' (first | exact Below.refl _ _ | assumption | refine b_alloc ?_ _ | refine b_over ?_ _ | refine b_drew ?_ | refine b_call ?_ (by assumption)))⟩
theorem rkindsA (op : Nat) (h : op < 37) (w : World) : Calls Try.prog 108 #[.string (tabA (tabC op))] w (RetI w (takesT op)) := by
  match op, h with
  | 0, _ => exact rkinds_0 w
  | 1, _ => exact rkinds_0 w
  | 2, _ => exact rkinds_0 w
  | 3, _ => exact rkinds_0 w
  | 4, _ => exact rkinds_0 w
  | 5, _ => exact rkinds_0 w
  | 6, _ => exact rkinds_0 w
  | 7, _ => exact rkinds_0 w
  | 8, _ => exact rkinds_0 w
  | 9, _ => exact rkinds_0 w
  | 10, _ => exact rkinds_0 w
  | 11, _ => exact rkinds_0 w
  | 12, _ => exact rkinds_0 w
  | 13, _ => exact rkinds_i w
  | 14, _ => exact rkinds_0 w
  | 15, _ => exact rkinds_0 w
  | 16, _ => exact rkinds_0 w
  | 17, _ => exact rkinds_0 w
  | 18, _ => exact rkinds_r w
  | 19, _ => exact rkinds_rr w
  | 20, _ => exact rkinds_r w
  | 21, _ => exact rkinds_ri w
  | 22, _ => exact rkinds_r w
  | 23, _ => exact rkinds_i w
  | 24, _ => exact rkinds_p w
  | 25, _ => exact rkinds_p w
  | 26, _ => exact rkinds_pi w
  | 27, _ => exact rkinds_p w
  | 28, _ => exact rkinds_i w
  | 29, _ => exact rkinds_i w
  | 30, _ => exact rkinds_0 w
  | 31, _ => exact rkinds_0 w
  | 32, _ => exact rkinds_0 w
  | 33, _ => exact rkinds_i w
  | 34, _ => exact rkinds_f w
  | 35, _ => exact rkinds_i w
  | 36, _ => exact rkinds_i w
  | n + 37, h => exact absurd h (by omega)
theorem rkindsB (op : Nat) (h : op < 37) (w : World) : Calls Try.prog 108 #[.string (tabB (tabC op))] w (RetI w (putsT op)) := by
  match op, h with
  | 0, _ => exact rkinds_0 w
  | 1, _ => exact rkinds_i w
  | 2, _ => exact rkinds_f w
  | 3, _ => exact rkinds_r w
  | 4, _ => exact rkinds_0 w
  | 5, _ => exact rkinds_0 w
  | 6, _ => exact rkinds_0 w
  | 7, _ => exact rkinds_0 w
  | 8, _ => exact rkinds_0 w
  | 9, _ => exact rkinds_0 w
  | 10, _ => exact rkinds_0 w
  | 11, _ => exact rkinds_0 w
  | 12, _ => exact rkinds_0 w
  | 13, _ => exact rkinds_0 w
  | 14, _ => exact rkinds_0 w
  | 15, _ => exact rkinds_0 w
  | 16, _ => exact rkinds_0 w
  | 17, _ => exact rkinds_r w
  | 18, _ => exact rkinds_r w
  | 19, _ => exact rkinds_0 w
  | 20, _ => exact rkinds_i w
  | 21, _ => exact rkinds_0 w
  | 22, _ => exact rkinds_i w
  | 23, _ => exact rkinds_p w
  | 24, _ => exact rkinds_i w
  | 25, _ => exact rkinds_i w
  | 26, _ => exact rkinds_0 w
  | 27, _ => exact rkinds_i w
  | 28, _ => exact rkinds_i w
  | 29, _ => exact rkinds_i w
  | 30, _ => exact rkinds_0 w
  | 31, _ => exact rkinds_0 w
  | 32, _ => exact rkinds_0 w
  | 33, _ => exact rkinds_0 w
  | 34, _ => exact rkinds_0 w
  | 35, _ => exact rkinds_0 w
  | 36, _ => exact rkinds_p w
  | n + 37, h => exact absurd h (by omega)
end
end Go.Proofs.Ytdmidnmciaediaa
