/- Layer 24: the words of instructions, as instr.Name finds them. No conditions. -/
import Derived.Test.YtdmidnmciaediaaInstrTwo
namespace Go.Proofs.Ytdmidnmciaediaa
open Go.RowKit
set_option linter.unusedVariables false
set_option linter.unusedSimpArgs false
def wsL : List UInt8 := (([110, 111, 112, 32, 112, 117, 115, 104, 32, 112, 117, 115, 104, 102, 32, 110, 105, 108, 32, 103, 101, 116, 32, 115, 101, 116, 32, 103, 103, 101, 116, 32, 103, 115, 101, 116, 32, 112, 111, 112, 32, 100, 117, 112, 32].append [117, 110, 32, 98, 105, 110, 32, 106, 117, 109, 112, 32, 106, 122, 32, 99, 97, 108, 108, 32, 114, 101, 116, 32, 112, 111, 108, 108, 32, 110, 101, 119, 32, 114, 103, 101, 116, 32, 114, 115, 101, 116, 32, 110, 103]).append ([101, 116, 32, 110, 115, 101, 116, 32, 105, 115, 110, 105, 108, 32, 109, 97, 108, 108, 111, 99, 32, 102, 114, 101, 101, 32, 108, 111, 97, 100, 32, 115, 116, 111, 114, 101, 32, 112, 110, 105, 108, 32, 115, 112, 97].append [119, 110, 32, 106, 111, 105, 110, 32, 121, 105, 101, 108, 100, 32, 108, 111, 99, 107, 32, 117, 110, 108, 111, 99, 107, 32, 108, 111, 103, 32, 108, 111, 103, 102, 32, 116, 114, 97, 112, 32, 116, 111, 112, 116, 114, 32]))
def WS : ByteArray := ⟨wsL.toArray⟩
def wsAt (p : Nat) : Nat := (wsL.getD p 0).toNat
/-- How many blanks stand ahead of p, and where the word begins. -/
def scan : Nat → Nat × Nat
  | 0 => (0, 0)
  | p + 1 => if wsAt p = 32 then ((scan p).1 + 1, p + 1) else scan p
theorem ws_fold : (⟨((([110, 111, 112, 32, 112, 117, 115, 104, 32, 112, 117, 115, 104, 102, 32, 110, 105, 108, 32, 103, 101, 116, 32, 115, 101, 116, 32, 103, 103, 101, 116, 32, 103, 115, 101, 116, 32, 112, 111, 112, 32, 100, 117, 112, 32].append [117, 110, 32, 98, 105, 110, 32, 106, 117, 109, 112, 32, 106, 122, 32, 99, 97, 108, 108, 32, 114, 101, 116, 32, 112, 111, 108, 108, 32, 110, 101, 119, 32, 114, 103, 101, 116, 32, 114, 115, 101, 116, 32, 110, 103]).append ([101, 116, 32, 110, 115, 101, 116, 32, 105, 115, 110, 105, 108, 32, 109, 97, 108, 108, 111, 99, 32, 102, 114, 101, 101, 32, 108, 111, 97, 100, 32, 115, 116, 111, 114, 101, 32, 112, 110, 105, 108, 32, 115, 112, 97].append [119, 110, 32, 106, 111, 105, 110, 32, 121, 105, 101, 108, 100, 32, 108, 111, 99, 107, 32, 117, 110, 108, 111, 99, 107, 32, 108, 111, 103, 32, 108, 111, 103, 102, 32, 116, 114, 97, 112, 32, 116, 111, 112, 116, 114, 32]))).toArray⟩ : ByteArray) = WS := rfl
theorem ws_size0 : (WS.size == 181) = true := by kernel_rfl
theorem ws_size : WS.size = 181 := eq_of_beq ws_size0
def scanOk (p : Nat) : Bool := decide (wsAt p < 128) && (wsAt p != 32 || ((WS.extract (scan p).2 p).data.toList == (nameS (scan p).1).data.toList && decide ((scan p).2 ≤ p) && decide ((scan p).1 < 37)))
theorem scan_all : (List.range 181).all scanOk = true := by kernel_rfl
theorem scan_end : (scan 181).1 = 37 := by kernel_rfl
theorem ws_at_all : (List.range 181).all (fun p => (WS.data.getD p 0).toNat == wsAt p) = true := by kernel_rfl
theorem ws_at (p : Nat) (h : p < WS.size) : (WS[p]'h).toNat = wsAt p := by
  have e := List.all_eq_true.1 ws_at_all p (List.mem_range.2 (by rw [← ws_size]; exact h))
  have e2 := eq_of_beq e
  rw [← e2]
  have hs : p < WS.data.size := h
  have : WS.data.getD p 0 = WS.data[p] := by unfold Array.getD; rw [dif_pos hs]; rfl
  rw [this]; rfl
theorem scan_ok (p : Nat) (h : p < 181) : wsAt p < 128 ∧ (wsAt p = 32 → WS.extract (scan p).2 p = nameS (scan p).1 ∧ (scan p).2 ≤ p ∧ (scan p).1 < 37) := by
  have e := List.all_eq_true.1 scan_all p (List.mem_range.2 h)
  unfold scanOk at e
  rw [Bool.and_eq_true, decide_eq_true_iff] at e
  refine ⟨e.1, fun h32 => ?_⟩
  have e2 := e.2
  rw [h32] at e2
  rw [show ((32 : Nat) != 32) = false from rfl, Bool.false_or, Bool.and_eq_true, Bool.and_eq_true, decide_eq_true_iff, decide_eq_true_iff] at e2
  refine ⟨?_, e2.1.2, e2.2⟩
  have e3 := eq_of_beq e2.1.1
  exact ByteArray.ext (Array.toList_inj.1 e3)
def nameB (op : Int) : ByteArray := if 0 ≤ op ∧ op < 37 then nameS op.toNat else ⟨#[]⟩
theorem scan_le : ∀ p, (scan p).1 ≤ p ∧ (scan p).2 ≤ p
  | 0 => ⟨Nat.le_refl _, Nat.le_refl _⟩
  | p + 1 => by
    obtain ⟨h1, h2⟩ := scan_le p
    unfold scan
    split
    · exact ⟨by simp only []; omega, Nat.le_refl _⟩
    · exact ⟨by omega, by omega⟩
theorem name_less (w : World) (p : Nat) (h : p < 181) : (match (w.iter WS (p + 1)).heap.back? with | some (.stringIter _ p) => 181 - p | _ => 0) < (match (w.iter WS p).heap.back? with | some (.stringIter _ p) => 181 - p | _ => 0) := by
  have e : ∀ q, (w.iter WS q).heap.back? = some (.stringIter WS q) := fun q => by
    show (w.heap.push (Obj.stringIter WS q)).back? = _
    simp
  rw [e, e]
  show 181 - (p + 1) < 181 - p
  omega
end Go.Proofs.Ytdmidnmciaediaa
