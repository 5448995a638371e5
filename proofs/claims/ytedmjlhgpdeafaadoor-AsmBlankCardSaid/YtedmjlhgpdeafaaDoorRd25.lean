/- Layer 25: what a program's bytes say, read as lists; a reader's state. No conditions beside those stated. -/
import Derived.Test.YtedmjlhgpdeafaaDoorBytM
import Derived.Test.YtedmjlhgpdeafaaDoorInstrRead
namespace Go.Proofs.YtedmjlhgpdeafaaDoor
open Go.RowKit
set_option linter.unusedVariables false
set_option linter.unusedSimpArgs false
def rdLst (b : List Int) : Option (List Int × List Int) := match b with
  | [] => none
  | x :: r => if x.toNat ≤ r.length then some (r.take x.toNat, r.drop x.toNat) else none
def insR (b : List Int) : In4 := ⟨opR b, xR b, aR b, bR b⟩
def rdCode : Nat → List Int → Option (List In4 × List Int)
  | 0, b => some ([], b)
  | n + 1, b => if okR b = true then (match rdCode n (b.drop (szR (opR b))) with
    | some (c, r) => some (insR b :: c, r)
    | none => none) else none
def rdCodes (b : List Int) : Option (List In4 × List Int) := match b with
  | [] => none
  | x :: r => rdCode x.toNat r
def rdFunc (b : List Int) : Option (FnM × List Int) := match rdLst b with
  | none => none
  | some (ps, b1) => match rdLst b1 with
    | none => none
    | some (ls, b2) => match b2 with
      | [] => none
      | r :: b3 => match rdCodes b3 with
        | none => none
        | some (c, b4) => some (⟨ps, ls, r, c⟩, b4)
def rdFuncs : Nat → List Int → Option (List FnM × List Int)
  | 0, b => some ([], b)
  | n + 1, b => match rdFunc b with
    | none => none
    | some (f, b1) => match rdFuncs n b1 with
      | none => none
      | some (fs, b2) => some (f :: fs, b2)
def rdEnd (u : Bool) (gl : List Int) (m : Int) (fs : List FnM) (b : List Int) : Option PrM := if b.isEmpty && mayP ⟨u, gl, m, fs⟩ then some ⟨u, gl, m, fs⟩ else none
def rdBody (u : Bool) (b : List Int) : Option PrM := match rdLst b with
  | none => none
  | some (gl, b1) => match b1 with
    | [] => none
    | m :: b2 => match b2 with
      | [] => none
      | n :: b3 => match rdFuncs n.toNat b3 with
        | none => none
        | some (fs, b4) => rdEnd u gl m fs b4
def markB (b : List Int) : Bool := b.take 4 == [84, 77, 66, 49]
def rdProg (b : List Int) : Option PrM := if markB b = true then (match b.drop 4 with
  | [] => none
  | f :: r => if f ≤ 1 then rdBody (f == 1) r else none) else none
/-- What is written into a block of the call's own leaves the older ones. -/
theorem gb_newer {w wr w' : World} {g : Nat} {r : Option Nat} (h : w.grownBy wr (some g)) (hg : wr.grownBy w' r) (hr : ∀ j, r = some j → w.heap.size ≤ j) : w.grownBy w' (some g) :=
  ⟨hg.os.trans h.os, hg.tape.trans h.tape, hg.output.trans h.output, Nat.le_trans h.size hg.size, fun k hk hne => (hg.block k (Nat.lt_of_lt_of_le hk h.size) (fun e => by have := hr k e.symm; omega)).trans (h.block k hk hne)⟩
theorem readB_from {w : World} {b o cap n : Nat} {xs : List Int} (h : ReadB w (.slice (some ⟨b, o, none⟩) xs.length cap) xs) (hn : n ≤ xs.length) : ReadB w (.slice (if cap = n then some ⟨b, o, none⟩ else some ⟨b, o + n, none⟩) (xs.length - n) (cap - n)) (xs.drop n) := by
  have h' := h
  obtain ⟨a, c, e, r1, r2, _⟩ := h'
  injection e with e1 e2 e3
  subst e3
  rcases Nat.lt_or_ge n xs.length with q | q
  · rw [if_neg (by omega)]
    have z := readB_cut h n xs.length q (Nat.le_refl _)
    rwa [List.take_of_length_le (by rw [List.length_drop]; exact Nat.le_refl _)] at z
  · have e : xs.length - n = 0 := by omega
    rw [List.drop_of_length_le q, e]
    exact ⟨_, _, rfl, Nat.zero_le _, by omega, fun hz => by (split at hz <;> cases hz), fun hp => absurd hp (Nat.lt_irrefl 0)⟩
end Go.Proofs.YtedmjlhgpdeafaaDoor
