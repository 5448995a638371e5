/- The references of layer 11 and the laws' own helpers over slices of ints. Conditions: slices read as lists, of fewer than 2^39 elements. -/
import Derived.Test.YtakcodbbecdfkaaQuarAll
namespace Go.Proofs.Ytakcodbbecdfkaa
open Go.RowKit
set_option linter.unusedVariables false
set_option linter.unusedSimpArgs false
theorem rqmost_any (n : Int) (w : World) : Calls Try.prog 26 #[.int .i64 n] w fun e w' => e = .returned (.int .i64 (mostI n)) ∧ w = w' := by
  rcases (show n < 0 ∨ (0 ≤ n ∧ 64 < n) ∨ (0 ≤ n ∧ n ≤ 64) by omega) with h | ⟨h, h'⟩ | ⟨h, h'⟩
  · have G : Hid (mostI n = 0) := by unfold mostI; rw [if_pos h]; exact rfl
    go_enter Try.func26, Try.ntmps26
    go_wp2
    go_ret
    exact ⟨by rw [G.out]; rfl, rfl⟩
  · have G : Hid (mostI n = 64) := by unfold mostI; rw [if_neg (by omega), if_pos h']; exact rfl
    go_enter Try.func26, Try.ntmps26
    go_wp2
    go_ret
    exact ⟨by rw [G.out]; rfl, rfl⟩
  · have G : Hid (mostI n = n) := by unfold mostI; rw [if_neg (by omega), if_neg (by omega)]; exact rfl
    go_enter Try.func26, Try.ntmps26
    go_wp2
    go_ret
    exact ⟨by rw [G.out]; rfl, rfl⟩
theorem putB_full {m : Nat} {xs : List Int} (h : ¬ xs.length < m) : putB m xs = true := by unfold putB; rw [decide_eq_false h]; rfl
theorem putB_room {m : Nat} {xs : List Int} (h : xs.length < m) : putB m xs = false := by unfold putB; rw [decide_eq_true h]; rfl
theorem putL_full {m : Nat} {xs : List Int} {x : Int} (h : ¬ xs.length < m) : putL m xs x = (xs ++ [x]).tail := by unfold putL; rw [if_neg h]
theorem putL_room {m : Nat} {xs : List Int} {x : Int} (h : xs.length < m) : putL m xs x = xs ++ [x] := by unfold putL; rw [if_pos h]
theorem b_grown' {W w w' : World} {b : Nat} (h : Below W.heap.size W w) (hg : w.grownBy w' (some b)) (hb : W.heap.size ≤ b) : Below W.heap.size W w' := b_grown h hg hb
def putN (m : Nat) (xs : List Int) : Int := if putB m xs = true then 1 else 0
def RetPut (w : World) (m : Nat) (xs : List Int) (x : Int) (e : Ending) (w' : World) : Prop := ∃ v, e = .returned (.tuple #[v, .int .i64 (putN m xs)]) ∧ ReadI w' v (putL m xs x) ∧ (∀ k, v.ownBlock = some k → w.heap.size ≤ k) ∧ Below w.heap.size w w'
theorem rqput_any (u : Value) (xs : List Int) (m : Nat) (x : Int) (w : World) (h : ReadI w u xs) (hl : xs.length ≤ 274877906944) (hm : m ≤ 64) :
    Calls Try.prog 42 #[u, .int .i64 m, .int .i64 x] w (RetPut w m xs x) := by
  have tok : True := trivial
  go_enter Try.func42, Try.ntmps42
  go_wp2_with (first
    | (at_builtin; have _t := tok; refine appendI rfl _ _ rfl w.heap.size _ [] rfl (own_empty (Nat.le_refl _)) _ xs rfl (readI_below h (b_alloc (Below.refl _ _) _)) ?c1 ?c2 ?_; (case c1 => (simp; omega)); (case c2 => simp); intro v1 w1 hown1 hg1; clear tok; clear _t)
    | (at_builtin; refine appendI rfl _ _ rfl w.heap.size _ ([] ++ xs) rfl (ownI_alloc hown1 _) _ [x] rfl (read_one w1 x) ?c1 ?c2 ?_; (case c1 => (simp; omega)); (case c2 => (have := hg1.size; simp at this ⊢; omega)); intro v2 w2 hown2 hg2; obtain ⟨g, cap, hv, hf1, hf2, hf3, hf4, hf5, hf6⟩ := ownI_form hown2 (by simp); rw [hv] at hown2; rw [hv]; clear hv))
  · rename_i hm1 hcap
    go_ret2
    refine ⟨.slice (some ⟨g, 0, none⟩) xs.length 0, ?_, ?_, fun k e => by cases e; exact hf1, ?_⟩
    · rw [show putN m xs = 1 from by unfold putN; rw [putB_full (by omega)]; rfl]; rfl
    · simp at hf3
      have hx : xs = [] := List.eq_nil_of_length_eq_zero (by omega)
      subst hx
      rw [putL_full (by simp at hm1 ⊢; omega)]
      exact ⟨some ⟨g, 0, none⟩, 0, rfl, Nat.le_refl _, Nat.zero_le _, (fun h => by cases h), (fun h => by simp at h)⟩
    · exact b_own (b_alloc (b_grown' (b_alloc (Below.refl _ _) _) hg1 (Nat.le_refl _)) _) (ownI_alloc hown1 _) hg2
  · rename_i hm1 hcap
    go_ret2
    refine ⟨.slice (some ⟨g, 1, none⟩) xs.length (cap - 1), ?_, ?_, fun k e => by cases e; exact hf1, ?_⟩
    · rw [show putN m xs = 1 from by unfold putN; rw [putB_full (by omega)]; rfl]; rfl
    · rw [putL_full (by omega)]
      simp at hf3
      have e : xs.length = (xs ++ [x]).tail.length := by simp
      rw [e]
      refine readI_mk (by simp; omega) (by unfold maxLen at *; omega) hf2 (fun i hi => ?_)
      simp at hi
      have := hf5 (1 + i) (by simp; omega)
      rw [this, List.nil_append, Nat.add_comm 1 i]
      simp only [List.getD_eq_getElem?_getD, List.getElem?_tail]
    · exact b_own (b_alloc (b_grown' (b_alloc (Below.refl _ _) _) hg1 (Nat.le_refl _)) _) (ownI_alloc hown1 _) hg2
  · rename_i hm1
    go_ret2
    refine ⟨.slice (some ⟨g, 0, none⟩) (xs.length + 1) cap, ?_, ?_, fun k e => by cases e; exact hf1, ?_⟩
    · rw [show putN m xs = 0 from by unfold putN; rw [putB_room (by omega)]; rfl]; rfl
    · rw [putL_room (by omega)]
      simp at hf3
      have e : xs.length + 1 = (xs ++ [x]).length := by simp
      rw [e]
      refine readI_mk (by simp; omega) hf4 hf2 (fun i hi => ?_)
      rw [Nat.zero_add]
      exact hf5 i (by simpa using hi)
    · exact b_own (b_alloc (b_grown' (b_alloc (Below.refl _ _) _) hg1 (Nat.le_refl _)) _) (ownI_alloc hown1 _) hg2
theorem eq_take {xs ys : List Int} (h : xs.length = ys.length) (hk : ∀ j, j < xs.length → xs.getD j 0 = ys.getD j 0) : xs = ys := by
  apply List.ext_getElem h
  intro i h1 h2
  have := hk i h1
  simpa [List.getD_eq_getElem?_getD, List.getElem?_eq_getElem h1, List.getElem?_eq_getElem h2] using this
theorem same11_any (u v : Value) (xs ys : List Int) (w : World) (h : ReadI w u xs) (h' : ReadI w v ys) (hl : xs.length ≤ 274877906944) (hl' : ys.length ≤ 274877906944) :
    Calls Try.prog 28 #[u, v] w fun e w' => e = .returned (.bool (decide (xs = ys))) ∧ Below w.heap.size w w' := by
  by_cases hn : xs.length = ys.length
  · by_cases h0 : 0 < xs.length
    · obtain ⟨b, o, cap, rfl, h1, h2, h3, h4⟩ := readI_pos h h0
      obtain ⟨b', o', cap', rfl, g1, g2, g3, g4⟩ := readI_pos h' (by omega)
      have t0 : ((xs.length : Int) != (ys.length : Int)) = false := by rw [hn]; simp
      have HN := Lib.hid hn
      have hn1 : xs.length ≤ ys.length := by omega
      have H4 := Lib.hid h4
      have G4 := Lib.hid g4
      clear h h' hn h4 g4
      go_enter Try.func28, Try.ntmps28
      go_wp2
      go_loopw [13] (fun i wr => ∃ k : Nat, k ≤ xs.length ∧ i = .int .i64 k ∧ Hid (∀ j, j < k → xs.getD j 0 = ys.getD j 0) ∧ Below w.heap.size w wr) (fun i _ => xs.length - (intOf i).toNat)
      case atStart => exact ⟨0, Nat.zero_le _, rfl, fun j hj => by omega, Below.refl _ _⟩
      case round =>
        obtain ⟨k, hk, rfl, hi, hb⟩ := hrel
        by_cases hlt : k < xs.length
        · have hc : wr.cell? ⟨b, o + k, none⟩ = some (.int .i64 (xs.getD k 0)) := (hb.cell (p := ⟨b, o + k, none⟩) h3).trans (H4.out k hlt)
          have hd : wr.cell? ⟨b', o' + k, none⟩ = some (.int .i64 (ys.getD k 0)) := (hb.cell (p := ⟨b', o' + k, none⟩) g3).trans (G4.out k (by omega))
          have k1 : (k : Int) < xs.length := by omega
          have k2 : (k : Int) < ys.length := by omega
          have k0 : (0 : Int) ≤ k := by omega
          obtain ⟨x, hx⟩ : ∃ x, x = xs.getD k 0 := ⟨_, rfl⟩
          obtain ⟨y, hy⟩ : ∃ y, y = ys.getD k 0 := ⟨_, rfl⟩
          rw [← hx] at hc; rw [← hy] at hd
          have HX := Lib.hid hx; have HY := Lib.hid hy; clear hx hy
          by_cases hxy : x = y
          · have t : (x != y) = false := by rw [hxy]; simp
            have E := Lib.hid hxy; clear hxy
            go_wp2_with fail
            go_quiet (fail)
            go_wp2
            go_roundw
            case rel =>
              refine ⟨k + 1, by omega, rfl, fun j hj => ?_, b_drewN hb _⟩
              rcases Nat.lt_or_ge j k with q | q
              · exact hi.out j q
              · have e : j = k := by omega
                rw [e, ← HX.out, ← HY.out, E.out]
            case measure => simp [intOf]; omega
          · have t : (x != y) = true := by rw [bne_iff_ne]; exact hxy
            have E := Lib.hid hxy; clear hxy
            go_wp2_with fail
            go_quiet (fail)
            go_wp2
            go_ret
            refine ⟨?_, b_drewN hb _⟩
            have hne : xs ≠ ys := fun h => E.out (by rw [HX.out, HY.out, h])
            rw [decide_eq_false hne]; rfl
        · go_wp2
          go_ret
          have he : xs = ys := eq_take HN.out (fun j hj => hi.out j (by omega))
          exact ⟨by rw [decide_eq_true he]; rfl, hb⟩
    · obtain ⟨a, cap, rfl⟩ := readI_len h
      obtain ⟨a', cap', rfl⟩ := readI_len h'
      have hx : xs = [] := List.eq_nil_of_length_eq_zero (by omega)
      have hy : ys = [] := List.eq_nil_of_length_eq_zero (by omega)
      subst hx; subst hy
      clear h h' hn h0
      go_enter Try.func28, Try.ntmps28
      go_wp2
      go_loopw [13] (fun i wr => i = .int .i64 0 ∧ Below w.heap.size w wr) (fun _ _ => 0)
      case atStart => exact ⟨rfl, Below.refl _ _⟩
      case round =>
        obtain ⟨rfl, hb⟩ := hrel
        go_wp2
        go_ret
        exact ⟨rfl, hb⟩
  · obtain ⟨a, cap, rfl⟩ := readI_len h
    obtain ⟨a', cap', rfl⟩ := readI_len h'
    have t0 : ((xs.length : Int) != (ys.length : Int)) = true := by rw [bne_iff_ne]; omega
    have hne : xs ≠ ys := fun e => hn (by rw [e])
    have HN := Lib.hid hne
    clear h h' hn hne
    go_enter Try.func28, Try.ntmps28
    go_wp2
    go_ret
    exact ⟨by rw [decide_eq_false HN.out]; rfl, Below.refl _ _⟩
end Go.Proofs.Ytakcodbbecdfkaa
