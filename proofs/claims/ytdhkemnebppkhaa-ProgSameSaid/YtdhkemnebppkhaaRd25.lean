/- Layer 25: what a program's bytes say, read as lists; a reader's state. No conditions beside those stated. -/
import Derived.Test.YtdhkemnebppkhaaBytM
import Derived.Test.YtdhkemnebppkhaaInstrRead
namespace Go.Proofs.Ytdhkemnebppkhaa
open Go.RowKit
set_option linter.unusedVariables false
set_option linter.unusedSimpArgs false
def rdLst (b : List Int) : Option (List Int × List Int) := match b with
  | [] => none
  | x :: r => if x.toNat ≤ r.length then some (r.take x.toNat, r.drop x.toNat) else none
def insR (b : List Int) : In4 := ⟨opR b, xR b, aR b, bR b⟩
def rdCode : Nat → List Int → Option (List In4 × List Int)
  | 0, b => some ([], b)
  | n + 1, b => if okR b = true then (match rdCode n (b.drop (szR (opR b))) with
    | some (c, r) => some (insR b :: c, r)
    | none => none) else none
def rdCodes (b : List Int) : Option (List In4 × List Int) := match b with
  | [] => none
  | x :: r => rdCode x.toNat r
def rdFunc (b : List Int) : Option (FnM × List Int) := match rdLst b with
  | none => none
  | some (ps, b1) => match rdLst b1 with
    | none => none
    | some (ls, b2) => match b2 with
      | [] => none
      | r :: b3 => match rdCodes b3 with
        | none => none
        | some (c, b4) => some (⟨ps, ls, r, c⟩, b4)
def rdFuncs : Nat → List Int → Option (List FnM × List Int)
  | 0, b => some ([], b)
  | n + 1, b => match rdFunc b with
    | none => none
    | some (f, b1) => match rdFuncs n b1 with
      | none => none
      | some (fs, b2) => some (f :: fs, b2)
def rdEnd (u : Bool) (gl : List Int) (m : Int) (fs : List FnM) (b : List Int) : Option PrM := if b.isEmpty && mayP ⟨u, gl, m, fs⟩ then some ⟨u, gl, m, fs⟩ else none
def rdBody (u : Bool) (b : List Int) : Option PrM := match rdLst b with
  | none => none
  | some (gl, b1) => match b1 with
    | [] => none
    | m :: b2 => match b2 with
      | [] => none
      | n :: b3 => match rdFuncs n.toNat b3 with
        | none => none
        | some (fs, b4) => rdEnd u gl m fs b4
def markB (b : List Int) : Bool := b.take 4 == [84, 77, 66, 49]
def rdProg (b : List Int) : Option PrM := if markB b = true then (match b.drop 4 with
  | [] => none
  | f :: r => if f ≤ 1 then rdBody (f == 1) r else none) else none
def RDRT : TypeId := 98
/-- A reader: its bytes. -/
def RdSt (w : World) (g : Nat) (xs : List Int) : Prop := tyB w g = some RDRT ∧ ∃ v, Blk w g [v] ∧ ReadB w v xs ∧ ∀ k, v.ownBlock = some k → k < g
theorem rdSt_lt {w : World} {g : Nat} {xs : List Int} (h : RdSt w g xs) : g < w.heap.size := by obtain ⟨_, v, h1, _⟩ := h; exact h1.1
theorem rdSt_grown {w w' : World} {g : Nat} {xs : List Int} {r : Option Nat} (h : RdSt w g xs) (hg : w.grownBy w' r) (hr : ∀ j, r = some j → g < j) : RdSt w' g xs := by
  have hlt := rdSt_lt h
  obtain ⟨ht, v, h1, h2, h3⟩ := h
  have hne : some g ≠ r := fun e => by have := hr g e.symm; omega
  exact ⟨tyB_grown ht hg hne, v, blk_grown h1 hg hne, readB_kept h2 (fun b hb hlt => hg.block b hlt (fun e => by have := hr b e.symm; have := h3 b hb; omega)) hg.size, h3⟩
theorem rdSt_below {w w' : World} {g : Nat} {xs : List Int} (h : RdSt w g xs) (hb : Below w.heap.size w w') : RdSt w' g xs := rdSt_grown h (gb_of hb none) (fun j e => by cases e)
theorem rdSt_alloc {w : World} {g : Nat} {xs : List Int} (h : RdSt w g xs) (o : Obj) : RdSt (w.alloc o) g xs := rdSt_below h (b_alloc (Below.refl _ _) o)
/-- What nobody can read: it falls. -/
def WRT : TypeId := 93
def Fell (e : Ending) : Prop := e = .panicked [{ v := .iface WRT (.agg #[]), recovered := false }]
def RdEnd {α : Type} (Q : World → Value → α → Prop) (R : Option (α × List Int)) (w : World) (g : Nat) (e : Ending) (w' : World) : Prop := match R with
  | none => Fell e ∧ w.grownBy w' (some g)
  | some (y, r) => ∃ v, e = .returned v ∧ Q w' v y ∧ RdSt w' g r ∧ w.grownBy w' (some g)
theorem rdEnd_none {α : Type} {Q : World → Value → α → Prop} {R : Option (α × List Int)} {w : World} {g : Nat} {e : Ending} {w' : World} (h : RdEnd Q R w g e w') (hR : R = none) : Fell e ∧ w.grownBy w' (some g) := by subst hR; exact h
theorem rdEnd_some {α : Type} {Q : World → Value → α → Prop} {R : Option (α × List Int)} {w : World} {g : Nat} {e : Ending} {w' : World} {y : α} {r : List Int} (h : RdEnd Q R w g e w') (hR : R = some (y, r)) : ∃ v, e = .returned v ∧ Q w' v y ∧ RdSt w' g r ∧ w.grownBy w' (some g) := by subst hR; exact h
theorem rdEnd_none' {α : Type} {Q : World → Value → α → Prop} {R : Option (α × List Int)} {w : World} {g : Nat} {e : Ending} {w' : World} (hR : R = none) (h : Fell e ∧ w.grownBy w' (some g)) : RdEnd Q R w g e w' := by subst hR; exact h
theorem rdEnd_some' {α : Type} {Q : World → Value → α → Prop} {R : Option (α × List Int)} {w : World} {g : Nat} {e : Ending} {w' : World} {y : α} {r : List Int} (hR : R = some (y, r)) (h : ∃ v, e = .returned v ∧ Q w' v y ∧ RdSt w' g r ∧ w.grownBy w' (some g)) : RdEnd Q R w g e w' := by subst hR; exact h
/-- What is written into a block of the call's own leaves the older ones. -/
theorem gb_newer {w wr w' : World} {g : Nat} {r : Option Nat} (h : w.grownBy wr (some g)) (hg : wr.grownBy w' r) (hr : ∀ j, r = some j → w.heap.size ≤ j) : w.grownBy w' (some g) :=
  ⟨hg.os.trans h.os, hg.tape.trans h.tape, hg.output.trans h.output, Nat.le_trans h.size hg.size, fun k hk hne => (hg.block k (Nat.lt_of_lt_of_le hk h.size) (fun e => by have := hr k e.symm; omega)).trans (h.block k hk hne)⟩
theorem readB_from {w : World} {b o cap n : Nat} {xs : List Int} (h : ReadB w (.slice (some ⟨b, o, none⟩) xs.length cap) xs) (hn : n ≤ xs.length) : ReadB w (.slice (if cap = n then some ⟨b, o, none⟩ else some ⟨b, o + n, none⟩) (xs.length - n) (cap - n)) (xs.drop n) := by
  have h' := h
  obtain ⟨a, c, e, r1, r2, _⟩ := h'
  injection e with e1 e2 e3
  subst e3
  rcases Nat.lt_or_ge n xs.length with q | q
  · rw [if_neg (by omega)]
    have z := readB_cut h n xs.length q (Nat.le_refl _)
    rwa [List.take_of_length_le (by rw [List.length_drop]; exact Nat.le_refl _)] at z
  · have e : xs.length - n = 0 := by omega
    rw [List.drop_of_length_le q, e]
    exact ⟨_, _, rfl, Nat.zero_le _, by omega, fun hz => by (split at hz <;> cases hz), fun hp => absurd hp (Nat.lt_irrefl 0)⟩
end Go.Proofs.Ytdhkemnebppkhaa
