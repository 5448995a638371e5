/- Layer 26: what an instruction takes and puts, and what it makes of a stack, as plain lists. No program in sight. No conditions. -/
import Derived.Test.YtdmidnmciaediaaZVer1
namespace Go.Proofs.Ytdmidnmciaediaa
open Go.RowKit
set_option linter.unusedVariables false
set_option linter.unusedSimpArgs false
structure Deal where
  t : List Int
  p : List Int
  c : Int
def bad (c : Int) : Deal := ⟨[], [], c⟩
def ifNamed (ok : Bool) (d : Deal) : Deal := if ok = true then d else bad 5
def inL (l : List Int) (k : Int) : Bool := decide (0 ≤ k) && decide (k < l.length)
def atL (l : List Int) (k : Int) : Int := l.getD k.toNat 0
def fzM : FnM := ⟨[], [], 0, []⟩
def fnAtM (P : PrM) (k : Int) : FnM := P.fs.getD k.toNat fzM
def inFs (P : PrM) (k : Int) : Bool := decide (0 ≤ k) && decide (k < P.fs.length)
def topL (st : List Int) : Int := st.getD (st.length - 1) 0
def takesT : Nat → List Int
  | 0 => []
  | 1 => []
  | 2 => []
  | 3 => []
  | 4 => []
  | 5 => []
  | 6 => []
  | 7 => []
  | 8 => []
  | 9 => []
  | 10 => []
  | 11 => []
  | 12 => []
  | 13 => [0]
  | 14 => []
  | 15 => []
  | 16 => []
  | 17 => []
  | 18 => [2]
  | 19 => [2, 2]
  | 20 => [2]
  | 21 => [2, 0]
  | 22 => [2]
  | 23 => [0]
  | 24 => [3]
  | 25 => [3]
  | 26 => [3, 0]
  | 27 => [3]
  | 28 => [0]
  | 29 => [0]
  | 30 => []
  | 31 => []
  | 32 => []
  | 33 => [0]
  | 34 => [1]
  | 35 => [0]
  | 36 => [0]
  | _ => []
def putsT : Nat → List Int
  | 0 => []
  | 1 => [0]
  | 2 => [1]
  | 3 => [2]
  | 4 => []
  | 5 => []
  | 6 => []
  | 7 => []
  | 8 => []
  | 9 => []
  | 10 => []
  | 11 => []
  | 12 => []
  | 13 => []
  | 14 => []
  | 15 => []
  | 16 => []
  | 17 => [2]
  | 18 => [2]
  | 19 => []
  | 20 => [0]
  | 21 => []
  | 22 => [0]
  | 23 => [3]
  | 24 => [0]
  | 25 => [0]
  | 26 => []
  | 27 => [0]
  | 28 => [0]
  | 29 => [0]
  | 30 => []
  | 31 => []
  | 32 => []
  | 33 => []
  | 34 => []
  | 35 => []
  | 36 => [3]
  | _ => []
def dealN (P : PrM) (f : FnM) (op : Nat) (a b : Int) (st : List Int) : Deal :=
  match op with
  | 4 => ifNamed (inL (f.ps ++ f.ls) a) ⟨[], [atL (f.ps ++ f.ls) a], 0⟩
  | 5 => ifNamed (inL (f.ps ++ f.ls) a) ⟨[atL (f.ps ++ f.ls) a], [], 0⟩
  | 6 => ifNamed (inL P.gl a) ⟨[], [atL P.gl a], 0⟩
  | 7 => ifNamed (inL P.gl a) ⟨[atL P.gl a], [], 0⟩
  | 8 => if st.length = 0 then bad 2 else ⟨[topL st], [], 0⟩
  | 9 => if st.length = 0 then bad 2 else ⟨[topL st], [topL st, topL st], 0⟩
  | 10 => ifNamed (decide (0 ≤ utO a)) ⟨[utO a], [ugO a], 0⟩
  | 11 => ifNamed (decide (0 ≤ takesO a)) ⟨[takesO a, takesO a], [givesO a], 0⟩
  | 14 => ifNamed (inFs P a) ⟨(fnAtM P a).ps, [(fnAtM P a).r], 0⟩
  | 15 => ⟨[f.r], [], 0⟩
  | 17 => ifNamed (okS a b) ⟨[], [2], 0⟩
  | 28 => ifNamed (inFs P a) (if (fnAtM P a).ps = [0] ∧ (fnAtM P a).r = 0 then ⟨[0], [0], 0⟩ else bad 7)
  | 31 => ifNamed (decide (a < P.m)) ⟨[], [], 0⟩
  | 32 => ifNamed (decide (a < P.m)) ⟨[], [], 0⟩
  | 36 => if P.u = true then ⟨[0], [3], 0⟩ else bad 8
  | n => ⟨takesT n, putsT n, 0⟩
def deal (P : PrM) (f : FnM) (i : In4) (st : List Int) : Deal := dealN P f i.op.toNat i.a i.b st
def waysI (i : In4) (k : Nat) : List Int := if i.op = 12 then [i.a] else if i.op = 13 then [(k : Int) + 1, i.a] else if i.op = 15 ∨ i.op = 35 then [] else [(k : Int) + 1]
def codeAt (f : FnM) (k : Int) : In4 := f.code.getD k.toNat ⟨0, 0, 0, 0⟩
/-- What an instruction makes of a stack: the stack behind it, the ways on, what is wrong. -/
def effD (f : FnM) (i : In4) (k : Nat) (st : List Int) (D : Deal) : Deal :=
  if D.c ≠ 0 then bad D.c
  else if (st.length : Int) < D.t.length ∨ st.drop (st.length - D.t.length) ≠ D.t ∨ (i.op = 15 ∧ D.t.length < st.length) then bad 2
  else if 16 < st.length - D.t.length + D.p.length then bad 3
  else if (waysI i k).any (fun j => decide ((f.code.length : Int) ≤ j)) = true then bad 1
  else if (waysI i k).any (fun j => decide (j ≤ (k : Int)) && decide ((codeAt f j).op ≠ 16)) = true then bad 6
  else ⟨st.take (st.length - D.t.length) ++ D.p, waysI i k, 0⟩
def effect (P : PrM) (f : FnM) (k : Nat) (st : List Int) : Deal := effD f (codeAt f k) k st (deal P f (codeAt f k) st)
def RetI (w : World) (xs : List Int) (e : Ending) (w' : World) : Prop := ∃ a c, e = .returned (.slice a xs.length c) ∧ ReadI w' (.slice a xs.length c) xs ∧ Below w.heap.size w w'
/-- Three results: two lists and a number. -/
def RetD (w : World) (D : Deal) (e : Ending) (w' : World) : Prop := ∃ a c b d, e = .returned (.tuple #[.slice a D.t.length c, .slice b D.p.length d, .int .i64 D.c]) ∧ ReadI w' (.slice a D.t.length c) D.t ∧ ReadI w' (.slice b D.p.length d) D.p ∧ Below w.heap.size w w'
theorem readI_lit {w : World} (xs : List Int) {k : Nat} (hk : k = w.heap.size) (hl : xs.length ≤ 100) : ReadI (w.alloc (.cells (ints xs).toArray 3)) (.slice (some ⟨k, 0, none⟩) xs.length xs.length) xs := by
  subst hk
  refine readI_mk (Nat.le_refl _) (by unfold maxLen; omega) (by simp) (fun i hi => ?_)
  rw [Nat.zero_add, World.cell?_alloc_new, List.getElem?_toArray]
  unfold ints
  rw [List.getElem?_map, List.getElem?_eq_getElem hi, List.getD_eq_getElem?_getD, List.getElem?_eq_getElem hi]; rfl
theorem readI_row {w : World} {v : Value} {xs : List Int} (h : ReadI w v xs) : ∃ a c, v = .slice a xs.length c ∧ ReadI w (.slice a xs.length c) xs ∧ xs.length ≤ c ∧ c ≤ maxLen := by
  have h' := h
  obtain ⟨a, c, rfl, h1, h2, _⟩ := h'
  exact ⟨a, c, rfl, h, h1, h2⟩
theorem deal_plain {P : PrM} {f : FnM} {op a b : Int} {x : Int} {st : List Int} {n : Nat} (h : op = n) (h' : n ∉ [4, 5, 6, 7, 8, 9, 10, 11, 14, 15, 17, 28, 31, 32, 36]) : deal P f ⟨op, x, a, b⟩ st = ⟨takesT n, putsT n, 0⟩ := by
  subst h
  show dealN P f n a b st = _
  unfold dealN
  split <;> first | rfl | (exact absurd (by decide) h')
end Go.Proofs.Ytdmidnmciaediaa
