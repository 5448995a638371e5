/- Layer 24: instructions as bytes, and back: ours and the document's. Conditions: those stated. Layer 24: the words of instructions, as instr.Name finds them. No conditions. Chapter 24's example. No conditions. Layer 24: an instruction read: ours and the document's. Conditions: the slice reads as bytes, of fewer than 2^38. Layer 24: an instruction read by the document's own Read. Conditions: the slice reads as bytes, of fewer than 2^38. Layer 24, plain: the bytes of an instruction that may be are read as it was, whatever stands behind them. No conditions beside those stated. Layer 25: a program's bytes, as lists; rows of bytes kept apart from all else. No conditions beside those stated. -/
import Derived.Test.YtdmidnmciaediaaWBytes
import Derived.Laws.OwnMore
import Derived.Laws.IdiomStrings
import Derived.Test.YtdmidnmciaediaaWBase
import Derived.Test.YtdmidnmciaediaaWMayPa
namespace Go.Proofs.Ytdmidnmciaediaa
section
open Go.RowKit
set_option linter.unusedVariables false
set_option linter.unusedSimpArgs false
/-- Bytes as a string. -/
def bytesOf (xs : List Int) : ByteArray := ⟨(xs.map (fun x => UInt8.ofNat x.toNat)).toArray⟩
end
section
open Go.RowKit
set_option linter.unusedVariables false
set_option linter.unusedSimpArgs false
attribute [local go_sem] over_cell over_frozen
theorem kinds (op : Int) : (shOk op = false ∧ shN op = 0 ∧ shX op = false) ∨ (shOk op = true ∧ shN op = 0 ∧ shX op = false) ∨ (shOk op = true ∧ shN op = 0 ∧ shX op = true) ∨ (shOk op = true ∧ shN op = 1 ∧ shX op = false) ∨ (shOk op = true ∧ shN op = 2 ∧ shX op = false) := by
  have h := kind_le op
  unfold shOk shN shX
  generalize kindOf op = n at h
  match n, h with
  | 0, _ => exact Or.inr (Or.inl ⟨rfl, rfl, rfl⟩)
  | 1, _ => exact Or.inr (Or.inr (Or.inl ⟨rfl, rfl, rfl⟩))
  | 2, _ => exact Or.inr (Or.inr (Or.inr (Or.inl ⟨rfl, rfl, rfl⟩)))
  | 3, _ => exact Or.inr (Or.inr (Or.inr (Or.inr ⟨rfl, rfl, rfl⟩)))
  | 4, _ => exact Or.inl ⟨rfl, rfl, rfl⟩
end
section
open Go.RowKit
set_option linter.unusedVariables false
set_option linter.unusedSimpArgs false
def GoodIn (i : In4) : Prop := 0 ≤ i.x ∧ i.x < 18446744073709551616
def GoodP (p : PrM) : Prop := ∀ f ∈ p.fs, ∀ i ∈ f.code, GoodIn i
/-- What a function that may be is. -/
structure OkF (f : FnM) : Prop where
  p : f.ps.length ≤ 8
  l : f.ls.length ≤ 8
  r : 0 ≤ f.r ∧ f.r ≤ 3
  c1 : 1 ≤ f.code.length
  c2 : f.code.length ≤ 96
  i : ∀ i ∈ f.code, mayI i = true
  kp : ∀ x ∈ f.ps, 0 ≤ x ∧ x ≤ 3
  kl : ∀ x ∈ f.ls, 0 ≤ x ∧ x ≤ 3
  pl : f.ps.length + f.ls.length ≤ 8
theorem kinds_all {xs : List Int} {most : Int} (h : kindsB xs most = true) : (∀ x ∈ xs, 0 ≤ x ∧ x ≤ 3) ∧ (xs.length : Int) ≤ most := by
  unfold kindsB at h
  rw [Bool.and_eq_true] at h
  refine ⟨fun x hx => ?_, of_decide_eq_true h.2⟩
  have := List.all_eq_true.1 h.1 x hx
  unfold kindB at this
  rw [Bool.and_eq_true] at this
  exact ⟨of_decide_eq_true this.1, of_decide_eq_true this.2⟩
theorem okF_of {f : FnM} (h : mayF f = true) : OkF f := by
  unfold mayF at h
  simp only [Bool.and_eq_true] at h
  obtain ⟨h1, h2, h3, h4, h5, h6, h7⟩ := h
  obtain ⟨a1, a2⟩ := kinds_all h1
  obtain ⟨b1, b2⟩ := kinds_all h2
  have h3 := of_decide_eq_true h3
  have h4 := of_decide_eq_true h4
  have h5 := of_decide_eq_true h5
  have h6 := of_decide_eq_true h6
  exact ⟨by omega, by omega, ⟨h3, h4⟩, h5, h6, fun i hi => List.all_eq_true.1 h7 i hi, a1, b1, by omega⟩
structure OkP (p : PrM) : Prop where
  f1 : 1 ≤ p.fs.length
  f2 : p.fs.length ≤ 16
  m : 0 ≤ p.m ∧ p.m ≤ 4
  g : p.gl.length ≤ 8
  kg : ∀ x ∈ p.gl, 0 ≤ x ∧ x ≤ 3
  f : ∀ f ∈ p.fs, OkF f
theorem okP_of {p : PrM} (h : mayP p = true) : OkP p := by
  unfold mayP at h
  simp only [Bool.and_eq_true] at h
  obtain ⟨h1, h2, h3, h4, h5, h6⟩ := h
  obtain ⟨a1, a2⟩ := kinds_all h5
  have h1 := of_decide_eq_true h1
  have h2 := of_decide_eq_true h2
  have h3 := of_decide_eq_true h3
  have h4 := of_decide_eq_true h4
  exact ⟨h1, h2, ⟨h3, h4⟩, by omega, a1, fun f hf => okF_of (List.all_eq_true.1 h6 f hf)⟩
theorem small_ok {p : PrM} (h : OkP p) : SmallP p := ⟨by have := h.g; omega, by have := h.f2; omega, fun f hf => ⟨by have := (h.f f hf).p; omega, by have := (h.f f hf).l; omega, by have := (h.f f hf).c2; omega⟩⟩
end
end Go.Proofs.Ytdmidnmciaediaa
