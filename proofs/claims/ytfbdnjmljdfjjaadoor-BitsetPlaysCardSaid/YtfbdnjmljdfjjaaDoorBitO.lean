/- Layer 2's calls that came in, read; the library's table out of the rows' own condition; a start that meets it. No conditions. -/
import Derived.Test.YtfbdnjmljdfjjaaDoorRows
import Derived.Test.YtfbdnjmljdfjjaaDoorBit5
import Derived.Test.YtfbdnjmljdfjjaaDoorOpenRow
import Derived.Lib.LaidTab
import Derived.LaidLaws
import Derived.Handed
import Derived.Lib.SmallJoins
namespace Go.Proofs.YtfbdnjmljdfjjaaDoor
open Go.RowKit Go.Deep
set_option linter.unusedVariables false
set_option linter.unusedSimpArgs false
def tabList : List Int := Lib.deBruijn64tab.map (fun n : Nat => (n : Int))
theorem laidTab : ([("math/bits.deBruijn64tab", Rows.laid_math_bits_deBruijn64tab)] : List (String × DataW Unit)) = [("math/bits.deBruijn64tab", Lib.tabData .u8 tabList)] := rfl
theorem tab_len : tabList.length = 64 := by decide +kernel
theorem tab_at (j : Nat) (hj : j < 64) : tabList.getD j 0 = ((Lib.deBruijn64tab.getD j 0 : Nat) : Int) := by
  have hl : Lib.deBruijn64tab.length = 64 := by decide +kernel
  unfold tabList
  rw [List.getD_eq_getElem?_getD, List.getElem?_map, List.getElem?_eq_getElem (by omega), List.getD_eq_getElem?_getD, List.getElem?_eq_getElem (by omega)]; rfl
theorem tabG : Tryd.prog.globalNamed "math/bits.deBruijn64tab" = some 0 := by kernel_rfl
theorem tabZ_laid {W : World} (h : laidMet Tryd.prog [("math/bits.deBruijn64tab", Rows.laid_math_bits_deBruijn64tab)] W) : TabZ W := by
  rw [laidTab] at h
  have hT := Lib.tabIs_of_head (t := 55) (e := 5) (n := 64) tabG (by kernel_rfl) Tryd.underlying55 Tryd.underlying5 (by kernel_rfl) (by kernel_rfl) h
  have hc := fun i hi => hT.cell tabG i hi
  have at_ : ∀ j, j < 64 → W.cell? ⟨0, j, none⟩ = some (.int .u8 ((Lib.deBruijn64tab.getD j 0 : Nat) : Int)) := fun j hj => by
    rw [hc j (by rw [tab_len]; exact hj), tab_at j hj]
  refine ⟨?_, at_⟩
  rcases Nat.lt_or_ge 0 W.heap.size with q | q
  · exact q
  · have := at_ 0 (by decide)
    simp only [World.cell?, Array.getElem?_eq_none q] at this
    cases this
noncomputable def tabWorld (os : Os) : World :=
  let w0 := World.holding Tryd.prog os ⟨#[], #[], []⟩
  { w0 with heap := w0.heap.modify 0 fun
      | .cells _ t frozen => .cells (tabList.map (Value.int .u8)).toArray t frozen
      | o => o }
theorem tab_met (os : Os) (args : Array Value) : laidMet Tryd.prog [("math/bits.deBruijn64tab", Rows.laid_math_bits_deBruijn64tab)] ((tabWorld os).forCall (fun _ _ => 0) ⟨#[], args, []⟩).memory :=
  laidMet_of_run' 8 (by kernel_rfl) (by kernel_rfl)
section
variable {H : Type} {enc : TypeId × Value → H} {w : World} {base : Nat} {spare : Nat → Bool} {held : Bool}
theorem open_boo {t : TypeId} {n : Nat} {cs : List Value} {y : DataW H × List MemPlace} (ht : Tryd.prog.underlying t = some .bool) (h : DataW.trod enc Tryd.prog w base spare held n t cs = some y) : ∃ a : Bool, cs = [.bool a] := by
  obtain ⟨a, e, _⟩ := DataW.trod_bool ht h
  exact ⟨a, e⟩
theorem open_bools {fuel : Nat} {a : Option Addr} {len cap : Nat} {x : DataW H × List MemPlace} (h : DataW.trod enc Tryd.prog w base spare held fuel 22 [.slice a len cap] = some x) : ∃ L : List Bool, ReadR booE w (.slice a len cap) L := by
  obtain ⟨L, h1, _⟩ := open_rows booE (fun _ => True) Tryd.underlying22 (by kernel_rfl) (fun n cs y htr hl => by
    obtain ⟨a, e⟩ := open_boo Tryd.underlying4 htr
    exact ⟨a, e, trivial⟩) h
  exact ⟨L, h1⟩
/-- A call of the law's. -/
structure OpB where
  k : Int
  i : Int
  v : Bool
def opBC (o : OpB) : List Value := [.int .i64 o.k, .int .i64 o.i, .bool o.v]
def opBE : Elt OpB where
  cells := opBC
  size := 3
  pos := by decide
  len := fun _ => rfl
  one := fun r u hu => by
    simp only [opBC, List.mem_cons, List.not_mem_nil, or_false] at hu
    rcases hu with rfl | rfl | rfl <;> rfl
theorem open_opsB {fuel : Nat} {a : Option Addr} {len cap : Nat} {x : DataW H × List MemPlace} (h : DataW.trod enc Tryd.prog w base spare held fuel 33 [.slice a len cap] = some x) : ∃ L : List OpB, ReadR opBE w (.slice a len cap) L ∧ ∀ o ∈ L, -9223372036854775808 ≤ o.i ∧ o.i ≤ 9223372036854775807 := by
  refine open_rows opBE (fun o => -9223372036854775808 ≤ o.i ∧ o.i ≤ 9223372036854775807) Tryd.underlying33 (by kernel_rfl) (fun n cs y htr hl => ?_) h
  obtain ⟨ys, n', _, _, _, hyl, hf⟩ := DataW.trod_struct Tryd.underlying36 htr
  have f0 := hf 0 _ rfl
  have f1 := hf 1 _ rfl
  have f2 := hf 2 _ rfl
  have g : ∀ j, j < 3 → ∃ y, ys[j]? = some y := fun j hj => ⟨_, List.getElem?_eq_getElem (by rw [hyl]; exact hj)⟩
  obtain ⟨y0, e0⟩ := g 0 (by omega)
  obtain ⟨y1, e1⟩ := g 1 (by omega)
  obtain ⟨y2, e2⟩ := g 2 (by omega)
  rw [e0] at f0
  rw [e1] at f1
  rw [e2] at f2
  obtain ⟨a0, c0, lo0, hi0⟩ := open_i64 Tryd.underlying3 f0
  obtain ⟨a1, c1, lo1, hi1⟩ := open_i64 Tryd.underlying3 f1
  obtain ⟨a2, c2⟩ := open_boo Tryd.underlying4 f2
  refine ⟨⟨a0, a1, a2⟩, ?_, ⟨lo1, hi1⟩⟩
  have hl' : cs.length = 3 := hl
  obtain ⟨x0, x1, x2, rfl⟩ : ∃ x0 x1 x2, cs = [x0, x1, x2] := by
    match cs, hl' with
    | [x0, x1, x2], _ => exact ⟨x0, x1, x2, rfl⟩
  have q0 : [x0] = [.int .i64 a0] := c0
  have q1 : [x1] = [.int .i64 a1] := c1
  have q2 : [x2] = [.bool a2] := c2
  injection q0 with q0
  injection q1 with q1
  injection q2 with q2
  subst q0 q1 q2
  rfl
end
end Go.Proofs.YtfbdnjmljdfjjaaDoor
