/- Layer 25: are two lists the same; a local's kind. Conditions: the lists are read as such. -/
import Derived.Test.YtdmidnmciaediaaZMayR25
namespace Go.Proofs.Ytdmidnmciaediaa
open Go.RowKit
set_option linter.unusedVariables false
set_option linter.unusedSimpArgs false
theorem eq_take {xs ys : List Int} (h : xs.length = ys.length) (hk : ∀ j, j < xs.length → xs.getD j 0 = ys.getD j 0) : xs = ys := by
  apply List.ext_getElem h
  intro i h1 h2
  have := hk i h1
  simpa [List.getD_eq_getElem?_getD, List.getElem?_eq_getElem h1, List.getElem?_eq_getElem h2] using this
set_option maxHeartbeats 1000000 in
theorem eqI_any (u v : Value) (xs ys : List Int) (w : World) (h : ReadI w u xs) (h' : ReadI w v ys) (hl : xs.length ≤ 274877906944) (hl' : ys.length ≤ 274877906944) :
    Calls Try.prog 90 #[u, v] w fun e w' => e = .returned (.bool (decide (xs = ys))) ∧ Below w.heap.size w w' := by
  by_cases hn : xs.length = ys.length
  · by_cases h0 : 0 < xs.length
    · obtain ⟨b, o, cap, rfl, h1, h2, h3, h4⟩ := readI_pos h h0
      obtain ⟨b', o', cap', rfl, g1, g2, g3, g4⟩ := readI_pos h' (by omega)
      have t0 : ((xs.length : Int) != (ys.length : Int)) = false := by rw [hn]; simp
      have HN := Lib.hid hn
      have hn1 : xs.length ≤ ys.length := by omega
      have H4 := Lib.hid h4
      have G4 := Lib.hid g4
      clear h h' hn h4 g4
      go_enter Try.func90, Try.ntmps90
      go_wp2
      go_loopw [13] (fun i wr => ∃ k : Nat, k ≤ xs.length ∧ i = .int .i64 k ∧ Hid (∀ j, j < k → xs.getD j 0 = ys.getD j 0) ∧ Below w.heap.size w wr) (fun i _ => xs.length - (intOf i).toNat)
      case atStart => exact ⟨0, Nat.zero_le _, rfl, fun j hj => by omega, Below.refl _ _⟩
      case round =>
        obtain ⟨k, hk, rfl, hi, hb⟩ := hrel
        by_cases hlt : k < xs.length
        · have hc : wr.cell? ⟨b, o + k, none⟩ = some (.int .i64 (xs.getD k 0)) := (hb.cell (p := ⟨b, o + k, none⟩) h3).trans (H4.out k hlt)
          have hd : wr.cell? ⟨b', o' + k, none⟩ = some (.int .i64 (ys.getD k 0)) := (hb.cell (p := ⟨b', o' + k, none⟩) g3).trans (G4.out k (by omega))
          have k1 : (k : Int) < xs.length := by omega
          have k2 : (k : Int) < ys.length := by omega
          have k0 : (0 : Int) ≤ k := by omega
          obtain ⟨x, hx⟩ : ∃ x, x = xs.getD k 0 := ⟨_, rfl⟩
          obtain ⟨y, hy⟩ : ∃ y, y = ys.getD k 0 := ⟨_, rfl⟩
          rw [← hx] at hc; rw [← hy] at hd
          have HX := Lib.hid hx; have HY := Lib.hid hy; clear hx hy
          by_cases hxy : x = y
          · have t : (x != y) = false := by rw [hxy]; simp
            have E := Lib.hid hxy; clear hxy
            go_wp2_with fail
            go_quiet (fail)
            go_wp2
            go_roundw
            case rel =>
              refine ⟨k + 1, by omega, rfl, fun j hj => ?_, b_drewN hb _⟩
              rcases Nat.lt_or_ge j k with q | q
              · exact hi.out j q
              · have e : j = k := by omega
                rw [e, ← HX.out, ← HY.out, E.out]
            case measure => simp [intOf]; omega
          · have t : (x != y) = true := by rw [bne_iff_ne]; exact hxy
            have E := Lib.hid hxy; clear hxy
            go_wp2_with fail
            go_quiet (fail)
            go_wp2
            go_ret
            refine ⟨?_, b_drewN hb _⟩
            have hne : xs ≠ ys := fun h => E.out (by rw [HX.out, HY.out, h])
            rw [decide_eq_false hne]; rfl
        · go_wp2
          go_ret
          have he : xs = ys := eq_take HN.out (fun j hj => hi.out j (by omega))
          exact ⟨by rw [decide_eq_true he]; rfl, hb⟩
    · obtain ⟨a, cap, rfl⟩ := readI_len h
      obtain ⟨a', cap', rfl⟩ := readI_len h'
      have hx : xs = [] := List.eq_nil_of_length_eq_zero (by omega)
      have hy : ys = [] := List.eq_nil_of_length_eq_zero (by omega)
      subst hx; subst hy
      clear h h' hn h0
      go_enter Try.func90, Try.ntmps90
      go_wp2
      go_loopw [13] (fun i wr => i = .int .i64 0 ∧ Below w.heap.size w wr) (fun _ _ => 0)
      case atStart => exact ⟨rfl, Below.refl _ _⟩
      case round =>
        obtain ⟨rfl, hb⟩ := hrel
        go_wp2
        go_ret
        exact ⟨rfl, hb⟩
  · obtain ⟨a, cap, rfl⟩ := readI_len h
    obtain ⟨a', cap', rfl⟩ := readI_len h'
    have t0 : ((xs.length : Int) != (ys.length : Int)) = true := by rw [bne_iff_ne]; omega
    have hne : xs ≠ ys := fun e => hn (by rw [e])
    have HN := Lib.hid hne
    clear h h' hn hne
    go_enter Try.func90, Try.ntmps90
    go_wp2
    go_ret
    exact ⟨by rw [decide_eq_false HN.out]; rfl, Below.refl _ _⟩
def kindOf25 (f : FnM) (k : Int) : Int := if k < 0 then 0 else (f.ps ++ f.ls).getD k.toNat 0
def hasOf25 (f : FnM) (k : Int) : Bool := decide (0 ≤ k) && decide (k < f.ps.length + f.ls.length)
set_option maxHeartbeats 1000000 in
theorem kind25_any (v : FnV) (f : FnM) (k : Int) (w : World) (h : DeepF w v f) (hs : SmallF f) : Calls Try.prog 138 #[.agg #[v.p.v, v.l.v, .int .i64 v.r, v.c.v], .int .i64 k] w fun e w' => e = .returned (.tuple #[.int .i64 (kindOf25 f k), .bool (hasOf25 f k)]) ∧ Below w.heap.size w w' := by
  obtain ⟨⟨pa, pn, pc⟩, ⟨la, ln, lc⟩, r, ⟨ca, cn, cc⟩⟩ := v
  obtain ⟨ps, ls, r', code⟩ := f
  obtain ⟨dp, dl, dr, dc⟩ := h
  obtain ⟨sp, sl, sc⟩ := hs
  simp only at dr sp sl sc
  subst dr
  obtain ⟨hp1, hp2, hp3⟩ := sli_cap (show ReadI w (.slice pa pn pc) ps from dp)
  subst hp3
  obtain ⟨hl1, hl2, hl3⟩ := sli_cap (show ReadI w (.slice la ln lc) ls from dl)
  subst hl3
  have dp : ReadI w (.slice pa ps.length pc) ps := dp
  have dl : ReadI w (.slice la ls.length lc) ls := dl
  clear dc
  unfold Sl.v
  simp only
  by_cases c1 : k < 0
  · have e1 : kindOf25 ⟨ps, ls, r, code⟩ k = 0 := by unfold kindOf25; rw [if_pos c1]
    have e2 : hasOf25 ⟨ps, ls, r, code⟩ k = false := by unfold hasOf25; rw [decide_eq_false (show ¬ 0 ≤ k by omega)]; rfl
    rw [e1, e2]
    clear e1 e2
    go_enter Try.func138, Try.ntmps138
    go_wp2_with fail
    go_ret2
    exact ⟨rfl, b_alloc (Below.refl _ _) _⟩
  · obtain ⟨j, rfl⟩ : ∃ j : Nat, k = j := ⟨k.toNat, by omega⟩
    have e0 : kindOf25 ⟨ps, ls, r, code⟩ j = (ps ++ ls).getD j 0 := by unfold kindOf25; rw [if_neg c1]; simp
    have j0 : (0 : Int) ≤ j := by omega
    by_cases c2 : ps.length + ls.length ≤ j
    · have c2' : (ps.length : Int) + ls.length ≤ j := by omega
      have e1 : kindOf25 ⟨ps, ls, r, code⟩ j = 0 := by rw [e0, List.getD_eq_getElem?_getD, List.getElem?_eq_none (by simp; omega)]; rfl
      have e2 : hasOf25 ⟨ps, ls, r, code⟩ j = false := by unfold hasOf25; simp only; rw [decide_eq_false (show ¬ (j : Int) < ps.length + ls.length by omega)]; simp
      rw [e1, e2]
      clear e1 e2 e0
      go_enter Try.func138, Try.ntmps138
      go_wp2_with fail
      go_ret2
      exact ⟨rfl, b_alloc (Below.refl _ _) _⟩
    · have c2' : ¬ (ps.length : Int) + ls.length ≤ j := by omega
      have e2 : hasOf25 ⟨ps, ls, r, code⟩ j = true := by unfold hasOf25; simp only; rw [decide_eq_true j0, decide_eq_true (show (j : Int) < ps.length + ls.length by omega)]; rfl
      rw [e2]
      clear e2
      by_cases c3 : j < ps.length
      · obtain ⟨bl, off, cp, e1, r1, r2, hbl, r4⟩ := readI_pos dp (by omega)
        cases e1
        have hc := r4 j c3
        have e1 : kindOf25 ⟨ps, ls, r, code⟩ j = ps.getD j 0 := by rw [e0, List.getD_eq_getElem?_getD, List.getElem?_append_left c3, ← List.getD_eq_getElem?_getD]
        rw [e1]
        clear e1 e0 r4
        generalize ps.getD j 0 = x at *
        have c3' : (j : Int) < ps.length := by omega
        go_enter Try.func138, Try.ntmps138
        go_wp2_with fail
        go_ret2
        exact ⟨rfl, b_alloc (Below.refl _ _) _⟩
      · obtain ⟨i, rfl⟩ : ∃ i, j = ps.length + i := ⟨j - ps.length, by omega⟩
        obtain ⟨bl, off, cp, e1, r1, r2, hbl, r4⟩ := readI_pos dl (by omega)
        cases e1
        have hc := r4 i (by omega)
        have e1 : kindOf25 ⟨ps, ls, r, code⟩ ((ps.length + i : Nat) : Int) = ls.getD i 0 := by rw [e0, List.getD_eq_getElem?_getD, List.getElem?_append_right (by omega), Nat.add_sub_cancel_left, ← List.getD_eq_getElem?_getD]
        rw [e1]
        clear e1 e0 r4
        generalize ls.getD i 0 = x at *
        have i1 : (i : Int) < ls.length := by omega
        have i0 : (0 : Int) ≤ i := by omega
        have hsub : Hid (((ps.length + i : Nat) : Int) - ps.length = i) := by show _ = _; omega
        have c3' : ¬ (((ps.length + i : Nat) : Int) < ps.length) := by omega
        go_enter Try.func138, Try.ntmps138
        go_wp2_with fail
        go_ret2
        exact ⟨rfl, b_alloc (Below.refl _ _) _⟩
end Go.Proofs.Ytdmidnmciaediaa
