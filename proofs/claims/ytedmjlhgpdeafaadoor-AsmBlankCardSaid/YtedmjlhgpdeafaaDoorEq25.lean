/- Layer 25: are two lists the same; a local's kind. Conditions: the lists are read as such. -/
import Derived.Test.YtedmjlhgpdeafaaDoorMayR25
namespace Go.Proofs.YtedmjlhgpdeafaaDoor
open Go.RowKit
set_option linter.unusedVariables false
set_option linter.unusedSimpArgs false
theorem eq_take {xs ys : List Int} (h : xs.length = ys.length) (hk : ∀ j, j < xs.length → xs.getD j 0 = ys.getD j 0) : xs = ys := by
  apply List.ext_getElem h
  intro i h1 h2
  have := hk i h1
  simpa [List.getD_eq_getElem?_getD, List.getElem?_eq_getElem h1, List.getElem?_eq_getElem h2] using this
set_option maxHeartbeats 1000000 in
theorem eqI_any (u v : Value) (xs ys : List Int) (w : World) (h : ReadI w u xs) (h' : ReadI w v ys) (hl : xs.length ≤ 274877906944) (hl' : ys.length ≤ 274877906944) :
    Calls Tryd.prog 31 #[u, v] w fun e w' => e = .returned (.bool (decide (xs = ys))) ∧ Below w.heap.size w w' := by
  by_cases hn : xs.length = ys.length
  · by_cases h0 : 0 < xs.length
    · obtain ⟨b, o, cap, rfl, h1, h2, h3, h4⟩ := readI_pos h h0
      obtain ⟨b', o', cap', rfl, g1, g2, g3, g4⟩ := readI_pos h' (by omega)
      have t0 : ((xs.length : Int) != (ys.length : Int)) = false := by rw [hn]; simp
      have HN := Lib.hid hn
      have hn1 : xs.length ≤ ys.length := by omega
      have H4 := Lib.hid h4
      have G4 := Lib.hid g4
      clear h h' hn h4 g4
      go_enter Tryd.func31, Tryd.ntmps31
      go_wp2
      go_loopw [13] (fun i wr => ∃ k : Nat, k ≤ xs.length ∧ i = .int .i64 k ∧ Hid (∀ j, j < k → xs.getD j 0 = ys.getD j 0) ∧ Below w.heap.size w wr) (fun i _ => xs.length - (intOf i).toNat)
      case atStart => exact ⟨0, Nat.zero_le _, rfl, fun j hj => by omega, Below.refl _ _⟩
      case round =>
        obtain ⟨k, hk, rfl, hi, hb⟩ := hrel
        by_cases hlt : k < xs.length
        · have hc : wr.cell? ⟨b, o + k, none⟩ = some (.int .i64 (xs.getD k 0)) := (hb.cell (p := ⟨b, o + k, none⟩) h3).trans (H4.out k hlt)
          have hd : wr.cell? ⟨b', o' + k, none⟩ = some (.int .i64 (ys.getD k 0)) := (hb.cell (p := ⟨b', o' + k, none⟩) g3).trans (G4.out k (by omega))
          have k1 : (k : Int) < xs.length := by omega
          have k2 : (k : Int) < ys.length := by omega
          have k0 : (0 : Int) ≤ k := by omega
          obtain ⟨x, hx⟩ : ∃ x, x = xs.getD k 0 := ⟨_, rfl⟩
          obtain ⟨y, hy⟩ : ∃ y, y = ys.getD k 0 := ⟨_, rfl⟩
          rw [← hx] at hc; rw [← hy] at hd
          have HX := Lib.hid hx; have HY := Lib.hid hy; clear hx hy
          by_cases hxy : x = y
          · have t : (x != y) = false := by rw [hxy]; simp
            have E := Lib.hid hxy; clear hxy
            go_wp2_with fail
            go_quiet (fail)
            go_wp2
            go_roundw
            case rel =>
              refine ⟨k + 1, by omega, rfl, fun j hj => ?_, b_drewN hb _⟩
              rcases Nat.lt_or_ge j k with q | q
              · exact hi.out j q
              · have e : j = k := by omega
                rw [e, ← HX.out, ← HY.out, E.out]
            case measure => simp [intOf]; omega
          · have t : (x != y) = true := by rw [bne_iff_ne]; exact hxy
            have E := Lib.hid hxy; clear hxy
            go_wp2_with fail
            go_quiet (fail)
            go_wp2
            go_ret
            refine ⟨?_, b_drewN hb _⟩
            have hne : xs ≠ ys := fun h => E.out (by rw [HX.out, HY.out, h])
            rw [decide_eq_false hne]; rfl
        · go_wp2
          go_ret
          have he : xs = ys := eq_take HN.out (fun j hj => hi.out j (by omega))
          exact ⟨by rw [decide_eq_true he]; rfl, hb⟩
    · obtain ⟨a, cap, rfl⟩ := readI_len h
      obtain ⟨a', cap', rfl⟩ := readI_len h'
      have hx : xs = [] := List.eq_nil_of_length_eq_zero (by omega)
      have hy : ys = [] := List.eq_nil_of_length_eq_zero (by omega)
      subst hx; subst hy
      clear h h' hn h0
      go_enter Tryd.func31, Tryd.ntmps31
      go_wp2
      go_loopw [13] (fun i wr => i = .int .i64 0 ∧ Below w.heap.size w wr) (fun _ _ => 0)
      case atStart => exact ⟨rfl, Below.refl _ _⟩
      case round =>
        obtain ⟨rfl, hb⟩ := hrel
        go_wp2
        go_ret
        exact ⟨rfl, hb⟩
  · obtain ⟨a, cap, rfl⟩ := readI_len h
    obtain ⟨a', cap', rfl⟩ := readI_len h'
    have t0 : ((xs.length : Int) != (ys.length : Int)) = true := by rw [bne_iff_ne]; omega
    have hne : xs ≠ ys := fun e => hn (by rw [e])
    have HN := Lib.hid hne
    clear h h' hn hne
    go_enter Tryd.func31, Tryd.ntmps31
    go_wp2
    go_ret
    exact ⟨by rw [decide_eq_false HN.out]; rfl, Below.refl _ _⟩
def kindOf25 (f : FnM) (k : Int) : Int := if k < 0 then 0 else (f.ps ++ f.ls).getD k.toNat 0
def hasOf25 (f : FnM) (k : Int) : Bool := decide (0 ≤ k) && decide (k < f.ps.length + f.ls.length)
end Go.Proofs.YtedmjlhgpdeafaaDoor
