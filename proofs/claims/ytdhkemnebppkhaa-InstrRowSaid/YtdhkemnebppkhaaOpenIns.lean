/- A slice of instructions that came in reads as a list of them. The first block began as the guide's own block for slices of structs (extra-structs.md, 1: meant to be copied). -/
import Derived.Test.YtdhkemnebppkhaaInstrRow
import Derived.Deep.Slices
import Derived.Deep.Fields
import Derived.ChangeSame
import Derived.WalkKit
import Derived.ProofKit
import Derived.OpenShut
import Derived.ChangeOld
namespace Go.Proofs.Ytdhkemnebppkhaa
open Go.ChangeShapes Go.WideShapes Go.Deep Go.RowKit
set_option linter.unusedVariables false
set_option linter.unusedSimpArgs false
section
variable {H : Type} {enc : TypeId × Value → H} {P : Program} {w : World} {base : Nat} {spare : Nat → Bool} {held : Bool}
theorem open_slice_fields {t e : TypeId} {fs : Array Field} {fuel : Nat} {cs : List Value} {x : DataW H × List MemPlace} (ht : P.underlying t = some (.slice e)) (he : P.underlying e = some (.struct fs))
    (hone : oneCellFields P fs = true) (hC : P.cellsOf e = fs.size) (h : DataW.trod enc P w base spare held fuel t cs = some x) :
    (cs = [.slice none 0 0] ∧ x = (.nil, [])) ∨
    ∃ (a : Addr) (len cap m : Nat) (D : Nat → DataW H) (Pl : Nat → List MemPlace), cs = [.slice (some a) len cap] ∧ base ≤ a.block ∧ len ≤ cap ∧ cap ≤ maxLen ∧ m = (if spare a.block then cap else len) ∧
      x = (.slice ((List.range len).map D) ((List.range (m - len)).map fun j => D (len + j)), MemPlace.row a (m * fs.size) ++ (List.range m).flatMap Pl) ∧
      ∀ i, i < m → ∃ (ys : List (DataW H × List MemPlace)) (n : Nat), D i = .agg (ys.map (·.1)) ∧ Pl i = ys.flatMap (·.2) ∧ ys.length = fs.size ∧
        ∀ (j : Nat) (f : Field), fs[j]? = some f → ∃ (v : Value) (y : DataW H × List MemPlace), w.cell? (a.add (i * fs.size + j)) = some v ∧ ys[j]? = some y ∧ DataW.trod enc P w base spare held n f.type [v] = some y := by
  rcases open_slice ht h with h0 | ⟨a, len, cap, m, n, D, Pl, hcs, hb, hl, hm, hmm, hx, hi⟩
  · exact .inl h0
  · refine .inr ⟨a, len, cap, m, D, Pl, hcs, hb, hl, hm, hmm, by rw [hC] at hx; exact hx, fun i him => ?_⟩
    obtain ⟨cs', hc, ht'⟩ := hi i him
    rw [hC] at hc
    obtain ⟨ys, n', hn', hy, hlen, hyl, hf⟩ := DataW.trod_struct he ht'
    obtain ⟨_, hcl, hat⟩ := World.cells?_some hc
    simp only [Prod.mk.injEq] at hy
    refine ⟨ys, n', hy.1, hy.2, hyl, fun j f hj => ?_⟩
    obtain ⟨ho, hk⟩ := hone_of hone j f hj
    have hjl : j < fs.size := (Array.getElem?_eq_some_iff.1 hj).1
    have hcell := hat j hjl
    have hv : cs'[j]? = some (cs'[j]'(by omega)) := List.getElem?_eq_getElem (by omega)
    have h1 := hf j f hj
    rw [ho, hk] at h1
    have hone' : (cs'.drop j).take 1 = [cs'[j]'(by omega)] := by
      rw [List.drop_eq_getElem_cons (by omega)]
      rfl
    rw [hone'] at h1
    have hys : ys[j]? = some (ys[j]'(by omega)) := List.getElem?_eq_getElem (by omega)
    refine ⟨_, _, ?_, hys, h1.trans hys⟩
    rw [← Go.Deep.add_add, hcell, hv]
end

def numOf : Option Value → Int
  | some (.int _ n) => n
  | _ => 0
def insAt (w : World) (x : Addr) (i : Nat) : Ins := ⟨numOf (w.cell? (x.add (i * 4 + 0))), numOf (w.cell? (x.add (i * 4 + 1))), numOf (w.cell? (x.add (i * 4 + 2))), numOf (w.cell? (x.add (i * 4 + 3)))⟩
theorem readN_of {w : World} {x : Addr} {len cap : Nat} (hl : len ≤ cap) (hm : cap ≤ maxLen) (hc : ∀ i, i < len → ∃ a b c d : Int, w.cell? (x.add (i * 4 + 0)) = some (.int .i64 a) ∧ w.cell? (x.add (i * 4 + 1)) = some (.int .u64 b) ∧ w.cell? (x.add (i * 4 + 2)) = some (.int .i64 c) ∧ w.cell? (x.add (i * 4 + 3)) = some (.int .i64 d) ∧ 0 ≤ b ∧ b < 18446744073709551616) :
    ReadN w (.slice (some x) len cap) ((List.range len).map (insAt w x)) ∧ GoodL ((List.range len).map (insAt w x)) := by
  have hins : ∀ i, i < len → (∀ j, j < 4 → w.cell? (x.add (i * 4 + j)) = (cellsI (insAt w x i))[j]?) ∧ 0 ≤ (insAt w x i).x ∧ (insAt w x i).x < 18446744073709551616 := fun i hi => by
    obtain ⟨a, b, c, d, h0, h1, h2, h3, b0, b1⟩ := hc i hi
    have e : insAt w x i = ⟨a, b, c, d⟩ := by unfold insAt; rw [h0, h1, h2, h3]; rfl
    rw [e]
    refine ⟨fun j hj => ?_, b0, b1⟩
    rcases (show j = 0 ∨ j = 1 ∨ j = 2 ∨ j = 3 by omega) with rfl | rfl | rfl | rfl
    · rw [h0]; rfl
    · rw [h1]; rfl
    · rw [h2]; rfl
    · rw [h3]; rfl
  have e : ((List.range len).map (insAt w x)).length = len := by simp
  constructor
  · refine ⟨some x, cap, by rw [e], by omega, hm, fun hp => ?_⟩
    rw [e] at hp
    have h0 := (hins 0 hp).1 0 (by omega)
    obtain ⟨b, o, spot⟩ := x
    have h0' : w.cell? ((⟨b, o, spot⟩ : Addr).add (0 * 4 + 0)) = some _ := h0.trans (by show _ = some (Value.int .i64 (insAt w ⟨b, o, spot⟩ 0).op); rfl)
    have hspot : spot = none := by simpa [Addr.add] using World.cell?_spot h0'
    subst hspot
    refine ⟨b, o, rfl, ?_, fun k hk j hj => ?_⟩
    · have := World.block_lt_of_cell? w _ h0'
      simpa [Addr.add] using this
    · rw [e] at hk
      have := (hins k hk).1 j hj
      rw [Addr.add_lit] at this
      rw [this, List.getElem_map, List.getElem_range]
  · intro i hi
    obtain ⟨k, hk, rfl⟩ := List.mem_map.1 hi
    exact (hins k (List.mem_range.1 hk)).2
theorem open_ins {H : Type} {enc : TypeId × Value → H} {w : World} {base : Nat} {spare : Nat → Bool} {held : Bool} {fuel : Nat} {a : Option Addr} {len cap : Nat} {x : DataW H × List MemPlace}
    (h : DataW.trod enc Try.prog w base spare held fuel 49 [.slice a len cap] = some x) : ∃ L, ReadN w (.slice a len cap) L ∧ GoodL L := by
  rcases open_slice_fields Try.underlying49 Try.underlying24 (by kernel_rfl) (by kernel_rfl) h with ⟨hcs, _⟩ | ⟨x, l, c, m, D, Pl, hcs, _, hl, hm, hmm, _, hf⟩
  · simp at hcs
    obtain ⟨rfl, rfl, rfl⟩ := hcs
    exact ⟨[], ⟨none, 0, rfl, Nat.le_refl _, Nat.zero_le _, fun hp => absurd hp (Nat.lt_irrefl 0)⟩, fun i hi => by cases hi⟩
  · simp at hcs
    obtain ⟨rfl, rfl, rfl⟩ := hcs
    refine ⟨_, readN_of hl hm (fun i hi => ?_)⟩
    have him : i < m := by rw [hmm]; split <;> omega
    obtain ⟨ys, n, _, _, _, hg⟩ := hf i him
    obtain ⟨v0, y0, c0, _, t0⟩ := hg 0 _ rfl
    obtain ⟨v1, y1, c1, _, t1⟩ := hg 1 _ rfl
    obtain ⟨v2, y2, c2, _, t2⟩ := hg 2 _ rfl
    obtain ⟨v3, y3, c3, _, t3⟩ := hg 3 _ rfl
    obtain ⟨n0, e0, _, _⟩ := DataW.trod_int Try.underlying3 t0
    obtain ⟨n1, e1, _, wx⟩ := DataW.trod_int Try.underlying22 t1
    obtain ⟨n2, e2, _, _⟩ := DataW.trod_int Try.underlying3 t2
    obtain ⟨n3, e3, _, _⟩ := DataW.trod_int Try.underlying3 t3
    simp at e0 e1 e2 e3
    subst e0 e1 e2 e3
    have bx := bounds_u64 wx
    exact ⟨n0, n1, n2, n3, c0, c1, c2, c3, by omega, by omega⟩
end Go.Proofs.Ytdhkemnebppkhaa
