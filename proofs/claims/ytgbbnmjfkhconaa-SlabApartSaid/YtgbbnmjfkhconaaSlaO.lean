/- The law's calls that came in read as a row. No conditions. -/
import Derived.Test.YtgbbnmjfkhconaaSlaA
import Derived.Test.YtgbbnmjfkhconaaOpenRow
namespace Go.Proofs.Ytgbbnmjfkhconaa
open Go.ChangeShapes Go.WideShapes Go.Deep Go.RowKit
set_option linter.unusedVariables false
set_option linter.unusedSimpArgs false
section
variable {H : Type} {enc : TypeId × Value → H} {w : World} {base : Nat} {spare : Nat → Bool} {held : Bool}
set_option maxRecDepth 100000 in
theorem open_ops7 {fuel : Nat} {a : Option Addr} {len cap : Nat} {x : DataW H × List MemPlace} (h : DataW.trod enc Try.prog w base spare held fuel 89 [.slice a len cap] = some x) : ∃ L : List Op7, ReadR op7 w (.slice a len cap) L := by
  obtain ⟨L, h1, _⟩ := open_rows op7 (fun _ => True) Try.underlying89 (by kernel_rfl) (fun n cs y htr hl => by
    obtain ⟨ays, an, _, _, _, ahl, ahf⟩ := DataW.trod_struct Try.underlying93 htr
    have ag : ∀ j, j < 4 → ∃ y, ays[j]? = some y := fun j hj => ⟨_, List.getElem?_eq_getElem (by rw [ahl]; exact hj)⟩
    have af0 := ahf 0 _ rfl
    have af1 := ahf 1 _ rfl
    have af2 := ahf 2 _ rfl
    have af3 := ahf 3 _ rfl
    obtain ⟨ay0, ae0⟩ := ag 0 (by omega)
    obtain ⟨ay1, ae1⟩ := ag 1 (by omega)
    obtain ⟨ay2, ae2⟩ := ag 2 (by omega)
    obtain ⟨ay3, ae3⟩ := ag 3 (by omega)
    rw [ae0] at af0
    rw [ae1] at af1
    rw [ae2] at af2
    rw [ae3] at af3
    obtain ⟨a0, c0, _⟩ := open_i64 Try.underlying3 af0
    obtain ⟨a1, c1, _⟩ := open_i64 Try.underlying3 af1
    obtain ⟨a2, c2, _⟩ := open_i64 Try.underlying3 af2
    have h3 : ∃ (a3 : Option Addr) (n3 c3' : Nat), cs.drop 3 = [.slice a3 n3 c3'] := by
      have hl' : cs.length = 4 := hl
      obtain ⟨x0, x1, x2, x3, rfl⟩ : ∃ x0 x1 x2 x3, cs = [x0, x1, x2, x3] := by
        match cs, hl' with
        | [x0, x1, x2, x3], _ => exact ⟨x0, x1, x2, x3, rfl⟩
      rcases open_slice Try.underlying31 af3 with ⟨hcs, _⟩ | ⟨x, l, cp, m, n, D, Pl, hcs, _⟩
      · have q : [x3] = [Value.slice none 0 0] := hcs
        exact ⟨none, 0, 0, q⟩
      · have q : [x3] = [Value.slice (some x) l cp] := hcs
        exact ⟨some x, l, cp, q⟩
    obtain ⟨a3, n3, c3', c3⟩ := h3
    refine ⟨⟨a0, a1, a2, ⟨a3, n3, c3'⟩⟩, ?_, trivial⟩
    have hl' : cs.length = 4 := hl
    obtain ⟨x0, x1, x2, x3, rfl⟩ : ∃ x0 x1 x2 x3, cs = [x0, x1, x2, x3] := by
      match cs, hl' with
      | [x0, x1, x2, x3], _ => exact ⟨x0, x1, x2, x3, rfl⟩
    have q0 : [x0] = [.int .i64 a0] := c0
    have q1 : [x1] = [.int .i64 a1] := c1
    have q2 : [x2] = [.int .i64 a2] := c2
    have q3 : [x3] = [Value.slice a3 n3 c3'] := c3
    injection q0 with q0
    injection q1 with q1
    injection q2 with q2
    injection q3 with q3
    subst q0 q1 q2 q3
    rfl) h
  exact ⟨L, h1⟩
end
end Go.Proofs.Ytgbbnmjfkhconaa
