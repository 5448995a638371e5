/- Layer 25's own may: the document's answer. Conditions: the program reads as lists. Layer 25: are two lists the same; a local's kind. Conditions: the lists are read as such. -/
import Derived.Test.YtedmjlhgpdeafaaDoorQOurs25
namespace Go.Proofs.YtedmjlhgpdeafaaDoor
section
open Go.RowKit
set_option linter.unusedVariables false
set_option linter.unusedSimpArgs false
attribute [local go_sem] over_cell over_frozen
def kindB (x : Int) : Bool := decide (0 ≤ x) && decide (x ≤ 3)
def kindsB (xs : List Int) (most : Int) : Bool := xs.all kindB && decide ((xs.length : Int) ≤ most)
def codeB (c : List In4) : Bool := c.all fun i => mayB i.op i.x i.a i.b
def mayF (f : FnM) : Bool := kindsB f.ps 8 && (kindsB f.ls (8 - f.ps.length) && (decide (0 ≤ f.r) && (decide (f.r ≤ 3) && (decide (1 ≤ f.code.length) && (decide (f.code.length ≤ 96) && codeB f.code)))))
def mayP (p : PrM) : Bool := decide (1 ≤ p.fs.length) && (decide (p.fs.length ≤ 16) && (decide (0 ≤ p.m) && (decide (p.m ≤ 4) && (kindsB p.gl 8 && p.fs.all mayF))))
theorem all_false {α : Type} {f : α → Bool} {L : List α} {k : Nat} (h : k < L.length) (hf : f L[k] = false) : L.all f = false := by
  rw [Bool.eq_false_iff]
  intro e
  have := List.all_eq_true.1 e _ (List.getElem_mem h)
  rw [hf] at this; cases this
theorem all_take {α : Type} {f : α → Bool} {L : List α} {k : Nat} (h : k < L.length) (ht : (L.take k).all f = true) (hf : f L[k] = true) : (L.take (k + 1)).all f = true := by
  rw [List.take_succ_eq_append_getElem h, List.all_append, ht]; simp [hf]
set_option maxHeartbeats 800000 in
theorem kinds_any (u : Value) (xs : List Int) (most : Int) (w : World) (h : ReadI w u xs) : Calls Tryd.prog 22 #[u, .int .i64 most] w fun e w' => e = .returned (.bool (kindsB xs most)) ∧ w = w' := by
  obtain ⟨a, cap, rfl⟩ := readI_len h
  have hl : (xs.length : Int) ≤ 9223372036854775807 := by
    obtain ⟨_, _, e, h1, h2, _⟩ := h; have := cap_le h2; omega
  go_enter Tryd.func22, Tryd.ntmps22
  go_wp2_with fail
  go_loopw [9] (fun i wr => ∃ k : Nat, k ≤ xs.length ∧ i = .int .i64 k ∧ wr = w ∧ Hid ((xs.take k).all kindB = true)) (fun i _ => xs.length - (intOf i).toNat)
  case atStart => exact ⟨0, Nat.zero_le _, rfl, rfl, rfl⟩
  case round =>
    obtain ⟨k, hk, rfl, rfl, hp⟩ := hrel
    have k0 : (0 : Int) ≤ k := by omega
    by_cases hlt : k < xs.length
    · obtain ⟨bl, off, cp, e1, r1, r2, hbl, r4⟩ := readI_pos h (by omega)
      cases e1
      have k1 : (k : Int) < xs.length := by omega
      have hc := r4 k hlt
      have HF : Hid (kindB xs[k] = false → xs.all kindB = false) := fun q => all_false hlt q
      have HT : Hid (kindB xs[k] = true → (xs.take (k + 1)).all kindB = true) := fun q => all_take hlt hp.out q
      rw [List.getD_eq_getElem?_getD, List.getElem?_eq_getElem hlt, Option.getD_some] at hc
      generalize xs[k] = x at *
      clear r4
      by_cases q1 : x < 0
      · go_wp2_with fail
        go_ret
        exact ⟨by unfold kindsB; rw [HF.out (by simp [kindB]; omega)]; rfl, rfl⟩
      · by_cases q2 : 3 < x
        · go_wp2_with fail
          go_ret
          exact ⟨by unfold kindsB; rw [HF.out (by simp [kindB]; omega)]; rfl, rfl⟩
        · go_wp2_with fail
          go_roundw
          case rel => exact ⟨k + 1, by omega, by first | rfl | trivial | go_num, by first | trivial | rfl, HT.out (by simp [kindB]; omega)⟩
          case measure => simp [intOf]; omega
    · have hall : xs.all kindB = true := by have q := hp.out; rw [List.take_of_length_le (by omega)] at q; exact q
      have HALL := Lib.hid hall
      clear hall hp
      go_wp2_with fail
      go_ret
      exact ⟨by unfold kindsB; rw [HALL.out]; rfl, rfl⟩
set_option maxRecDepth 100000 in
set_option maxHeartbeats 4000000 in
theorem rmay25_any (p : PrV) (P : PrM) (w : World) (h : ReadP w p P) : Calls Tryd.prog 7 #[aggP p] w fun e w' => e = .returned (.bool (mayP P)) ∧ Below w.heap.size w w' := by
  obtain ⟨u, ⟨ga, gn, gc⟩, m, ⟨fa, fn, fc⟩⟩ := p
  obtain ⟨hu, hg, hm, L, hL, hA⟩ := h
  simp only at hu hm
  unfold Sl.v at hg hL
  simp only at hg hL
  obtain ⟨hg1, hg2, hg3⟩ := sli_cap hg
  obtain ⟨hf1, hf2, hf3⟩ := slr_cap hL
  subst hf3
  have hfm := cap_le hf2
  have hfl : P.fs.length = L.length := (allF_len hA).symm
  have HFL := Lib.hid hfl
  have HG := Lib.hid hg
  have HL := Lib.hid hL; have HA := Lib.hid hA
  have HM := Lib.hid hm
  clear hg hL hA hu hm hg3 hfl
  unfold aggP Sl.v
  simp only
  by_cases c1 : L.length < 1
  · have c1' : (L.length : Int) < 1 := by omega
    go_enter Tryd.func7, Tryd.ntmps7
    go_wp2_with fail
    go_ret
    exact ⟨by have := HFL.out; unfold mayP; rw [decide_eq_false (show ¬ 1 ≤ P.fs.length by omega)]; rfl, by first | exact b_alloc (Below.refl _ _) _ | exact Below.refl _ _⟩
  by_cases c2 : 16 < L.length
  · have c2' : (16 : Int) < L.length := by omega
    go_enter Tryd.func7, Tryd.ntmps7
    go_wp2_with fail
    go_ret
    exact ⟨by have := HFL.out; unfold mayP; rw [decide_eq_false (show ¬ P.fs.length ≤ 16 by omega)]; simp, by first | exact b_alloc (Below.refl _ _) _ | exact Below.refl _ _⟩
  have c1' : ¬ (L.length : Int) < 1 := by omega
  have c2' : ¬ (16 : Int) < L.length := by omega
  by_cases c3 : m < 0
  · go_enter Tryd.func7, Tryd.ntmps7
    go_wp2_with fail
    go_ret
    exact ⟨by have := HM.out; unfold mayP; rw [decide_eq_false (show ¬ 0 ≤ P.m by omega)]; simp, by first | exact b_alloc (Below.refl _ _) _ | exact Below.refl _ _⟩
  by_cases c4 : 4 < m
  · go_enter Tryd.func7, Tryd.ntmps7
    go_wp2_with fail
    go_ret
    exact ⟨by have := HM.out; unfold mayP; rw [decide_eq_false (show ¬ P.m ≤ 4 by omega)]; simp, by first | exact b_alloc (Below.refl _ _) _ | exact Below.refl _ _⟩
  have HD : Hid (mayP P = (kindsB P.gl 8 && P.fs.all mayF)) := by
    show _ = _
    have := HFL.out; have := HM.out
    unfold mayP; rw [decide_eq_true (show 1 ≤ P.fs.length by omega), decide_eq_true (show P.fs.length ≤ 16 by omega), decide_eq_true (show 0 ≤ P.m by omega), decide_eq_true (show P.m ≤ 4 by omega)]; rfl
  go_enter Tryd.func7, Tryd.ntmps7
  go_wp2_with fail
  refine (kinds_any _ P.gl 8 _ (readI_below HG.out (b_alloc (Below.refl _ _) _))).mono ?_
  rintro e w' ⟨rfl, rfl⟩
  obtain ⟨b1, hb1⟩ : ∃ b, b = kindsB P.gl 8 := ⟨_, rfl⟩
  rw [← hb1]
  have HB1 := Lib.hid hb1; clear hb1
  cases b1
  · go_wp2_with fail
    go_ret
    exact ⟨by rw [HD.out, ← HB1.out]; rfl, b_alloc (Below.refl _ _) _⟩
  go_wp2_with fail
  go_loopw [36] (fun i wr => ∃ k : Nat, k ≤ L.length ∧ i = .int .i64 k ∧ Hid (Below w.heap.size w wr) ∧ Hid ((P.fs.take k).all mayF = true)) (fun i _ => L.length - (intOf i).toNat)
  case atStart => exact ⟨0, Nat.zero_le _, rfl, b_alloc (Below.refl _ _) _, rfl⟩
  case round =>
    obtain ⟨k, hk, rfl, hbw, hp⟩ := hrel
    have k0 : (0 : Int) ≤ k := by omega
    by_cases hlt : k < L.length
    · obtain ⟨bl, off, cp, e1, r1, r2, hbl, r4⟩ := readR_pos HL.out (by omega)
      cases e1
      have k1 : (k : Int) < L.length := by omega
      have hcs := fn_cells r4 k hlt
      rw [← (bcell hbw.out).1 _ _ hbl, ← (bcell hbw.out).1 _ _ hbl, ← (bcell hbw.out).1 _ _ hbl, ← (bcell hbw.out).1 _ _ hbl] at hcs
      have hkf : k < P.fs.length := by rw [HFL.out]; exact hlt
      have hdf := allF_at HA.out k hlt hkf
      have HF : Hid (mayF P.fs[k] = false → P.fs.all mayF = false) := fun q => all_false hkf q
      have HT : Hid (mayF P.fs[k] = true → (P.fs.take (k + 1)).all mayF = true) := fun q => all_take hkf hp.out q
      generalize L[k] = f at *
      generalize P.fs[k] = fm at *
      obtain ⟨⟨pa, pn, pc⟩, ⟨la, ln, lc⟩, r, ⟨ca, cn, cc⟩⟩ := f
      obtain ⟨ps, ls, r', code⟩ := fm
      obtain ⟨dp, dl, dr, dc⟩ := hdf
      simp only at hcs dr
      subst dr
      obtain ⟨d0, d1, d2, d3⟩ := hcs
      obtain ⟨_, hp2, hp3⟩ := sli_cap (show ReadI w (.slice pa pn pc) ps from dp)
      subst hp3
      obtain ⟨hc1, hc2, hc3⟩ := slr_cap (show ReadR inE w (.slice ca cn cc) code from dc)
      subst hc3
      have hcm := cap_le hc2
      have HDP := Lib.hid (show ReadI w (.slice pa ps.length pc) ps from dp)
      have HDL := Lib.hid (show ReadI w (.slice la ln lc) ls from dl)
      have HDC := Lib.hid (show ReadR inE w (.slice ca code.length cc) code from dc)
      have HM2 : Hid (mayF ⟨ps, ls, r, code⟩ = (kindsB ps 8 && (kindsB ls (8 - ps.length) && (decide (0 ≤ r) && (decide (r ≤ 3) && (decide (1 ≤ code.length) && (decide (code.length ≤ 96) && codeB code))))))) := rfl
      clear r4 dp dl dc hp
      go_wp2_with fail
      refine (kinds_any _ ps 8 _ (readI_below HDP.out (b_alloc hbw.out _))).mono ?_
      rintro e w' ⟨rfl, rfl⟩
      obtain ⟨b2, hb2⟩ : ∃ b, b = kindsB ps 8 := ⟨_, rfl⟩
      rw [← hb2]
      have HB2 := Lib.hid hb2; clear hb2
      cases b2
      · go_wp2_with fail
        go_ret
        exact ⟨by rw [HD.out, ← HB1.out, HF.out (by rw [HM2.out, ← HB2.out]; rfl)]; rfl, b_alloc hbw.out _⟩
      have hp8 : (ps.length : Int) ≤ 8 := by
        have q := HB2.out; unfold kindsB at q
        have q2 := (Bool.and_eq_true _ _ ▸ q.symm : _ ∧ _).2
        exact of_decide_eq_true q2
      go_wp2_with fail
      refine (kinds_any _ ls (8 - ps.length) _ (readI_below HDL.out (b_alloc hbw.out _))).mono ?_
      rintro e w' ⟨rfl, rfl⟩
      obtain ⟨b3, hb3⟩ : ∃ b, b = kindsB ls (8 - ps.length) := ⟨_, rfl⟩
      rw [← hb3]
      have HB3 := Lib.hid hb3; clear hb3
      cases b3
      · go_wp2_with fail
        go_ret
        exact ⟨by rw [HD.out, ← HB1.out, HF.out (by rw [HM2.out, ← HB2.out, ← HB3.out]; rfl)]; rfl, b_alloc hbw.out _⟩
      by_cases r1' : r < 0
      · go_wp2_with fail
        go_ret
        exact ⟨by rw [HD.out, ← HB1.out, HF.out (by rw [HM2.out, decide_eq_false (show ¬ 0 ≤ r by omega)]; simp)]; rfl, b_alloc hbw.out _⟩
      by_cases r2' : 3 < r
      · go_wp2_with fail
        go_ret
        exact ⟨by rw [HD.out, ← HB1.out, HF.out (by rw [HM2.out, decide_eq_false (show ¬ r ≤ 3 by omega)]; simp)]; rfl, b_alloc hbw.out _⟩
      by_cases s1 : code.length < 1
      · have s1' : (code.length : Int) < 1 := by omega
        go_wp2_with fail
        go_ret
        exact ⟨by rw [HD.out, ← HB1.out, HF.out (by rw [HM2.out, decide_eq_false (show ¬ 1 ≤ code.length by omega)]; simp)]; rfl, b_alloc hbw.out _⟩
      by_cases s2 : 96 < code.length
      · have s2' : (96 : Int) < code.length := by omega
        go_wp2_with fail
        go_ret
        exact ⟨by rw [HD.out, ← HB1.out, HF.out (by rw [HM2.out, decide_eq_false (show ¬ code.length ≤ 96 by omega)]; simp)]; rfl, b_alloc hbw.out _⟩
      have s1' : ¬ (code.length : Int) < 1 := by omega
      have s2' : ¬ (96 : Int) < code.length := by omega
      have HM3 : Hid (mayF ⟨ps, ls, r, code⟩ = codeB code) := by
        show _ = _
        rw [HM2.out, ← HB2.out, ← HB3.out, decide_eq_true (show 0 ≤ r by omega), decide_eq_true (show r ≤ 3 by omega), decide_eq_true (show 1 ≤ code.length by omega), decide_eq_true (show code.length ≤ 96 by omega)]; rfl
      obtain ⟨W1, hW1⟩ : ∃ W1, W1 = wr := ⟨_, rfl⟩
      subst hW1
      go_wp2_with fail
      go_loopw [79] (fun i wz => ∃ j : Nat, j ≤ code.length ∧ i = .int .i64 j ∧ Hid (Below w.heap.size w wz) ∧ Hid (codeB (code.take j) = true)) (fun i _ => code.length - (intOf i).toNat)
      case atStart => exact ⟨0, Nat.zero_le _, rfl, b_alloc hbw.out _, rfl⟩
      case round =>
        obtain ⟨j, hj, rfl, hbz, hpz⟩ := hrel
        have j0 : (0 : Int) ≤ j := by omega
        by_cases hlt2 : j < code.length
        · obtain ⟨bl2, off2, cp2, e1, r12, r22, hbl2, r42⟩ := readR_pos HDC.out (by omega)
          cases e1
          have j1 : (j : Int) < code.length := by omega
          have hcs := in_cells r42 j hlt2
          rw [← (bcell hbz.out).1 _ _ hbl2, ← (bcell hbz.out).1 _ _ hbl2, ← (bcell hbz.out).1 _ _ hbl2, ← (bcell hbz.out).1 _ _ hbl2] at hcs
          have HF2 : Hid (mayB code[j].op code[j].x code[j].a code[j].b = false → codeB code = false) := fun q => all_false hlt2 q
          have HT2 : Hid (mayB code[j].op code[j].x code[j].a code[j].b = true → codeB (code.take (j + 1)) = true) := fun q => all_take hlt2 hpz.out q
          generalize code[j] = ii at *
          obtain ⟨iop, ix, ia, ib⟩ := ii
          simp only at hcs HF2 HT2
          obtain ⟨i0, i1, i2, i3⟩ := hcs
          clear r42 hpz
          go_wp2_with fail
          refine (rmay_any _ _ _ _ _).mono ?_
          rintro e w9 ⟨rfl, hb9⟩
          obtain ⟨b4, hb4⟩ : ∃ b, b = mayB iop ix ia ib := ⟨_, rfl⟩
          rw [← hb4]
          have HB4 := Lib.hid hb4; clear hb4
          have HB9 := Lib.hid (b_call (b_alloc hbz.out _) hb9)
          cases b4
          · go_wp2_with fail
            go_ret
            exact ⟨by rw [HD.out, ← HB1.out, HF.out (by rw [HM3.out]; exact HF2.out HB4.out.symm)]; rfl, HB9.out⟩
          · go_wp2_with fail
            go_roundw
            case rel => exact ⟨j + 1, by omega, by first | rfl | trivial | go_num, HB9.out, HT2.out HB4.out.symm⟩
            case measure => simp [intOf]; omega
        · have hall : codeB code = true := by have q := hpz.out; rw [List.take_of_length_le (by omega)] at q; exact q
          have HALL := Lib.hid hall
          clear hall hpz
          go_wp2_with fail
          go_roundw
          case rel => exact ⟨k + 1, by omega, by first | rfl | trivial | go_num, hbz.out, HT.out (by rw [HM3.out]; exact HALL.out)⟩
          case measure => simp [intOf]; omega
    · have hall : P.fs.all mayF = true := by have q := hp.out; rw [List.take_of_length_le (by have := HFL.out; omega)] at q; exact q
      have HALL := Lib.hid hall
      clear hall hp
      go_wp2_with fail
      go_ret
      exact ⟨by rw [HD.out, ← HB1.out, HALL.out]; rfl, hbw.out⟩
end
section
open Go.RowKit
set_option linter.unusedVariables false
set_option linter.unusedSimpArgs false
theorem eq_take {xs ys : List Int} (h : xs.length = ys.length) (hk : ∀ j, j < xs.length → xs.getD j 0 = ys.getD j 0) : xs = ys := by
  apply List.ext_getElem h
  intro i h1 h2
  have := hk i h1
  simpa [List.getD_eq_getElem?_getD, List.getElem?_eq_getElem h1, List.getElem?_eq_getElem h2] using this
set_option maxHeartbeats 1000000 in
theorem eqI_any (u v : Value) (xs ys : List Int) (w : World) (h : ReadI w u xs) (h' : ReadI w v ys) (hl : xs.length ≤ 274877906944) (hl' : ys.length ≤ 274877906944) :
    Calls Tryd.prog 31 #[u, v] w fun e w' => e = .returned (.bool (decide (xs = ys))) ∧ Below w.heap.size w w' := by
  by_cases hn : xs.length = ys.length
  · by_cases h0 : 0 < xs.length
    · obtain ⟨b, o, cap, rfl, h1, h2, h3, h4⟩ := readI_pos h h0
      obtain ⟨b', o', cap', rfl, g1, g2, g3, g4⟩ := readI_pos h' (by omega)
      have t0 : ((xs.length : Int) != (ys.length : Int)) = false := by rw [hn]; simp
      have HN := Lib.hid hn
      have hn1 : xs.length ≤ ys.length := by omega
      have H4 := Lib.hid h4
      have G4 := Lib.hid g4
      clear h h' hn h4 g4
      go_enter Tryd.func31, Tryd.ntmps31
      go_wp2
      go_loopw [13] (fun i wr => ∃ k : Nat, k ≤ xs.length ∧ i = .int .i64 k ∧ Hid (∀ j, j < k → xs.getD j 0 = ys.getD j 0) ∧ Below w.heap.size w wr) (fun i _ => xs.length - (intOf i).toNat)
      case atStart => exact ⟨0, Nat.zero_le _, rfl, fun j hj => by omega, Below.refl _ _⟩
      case round =>
        obtain ⟨k, hk, rfl, hi, hb⟩ := hrel
        by_cases hlt : k < xs.length
        · have hc : wr.cell? ⟨b, o + k, none⟩ = some (.int .i64 (xs.getD k 0)) := (hb.cell (p := ⟨b, o + k, none⟩) h3).trans (H4.out k hlt)
          have hd : wr.cell? ⟨b', o' + k, none⟩ = some (.int .i64 (ys.getD k 0)) := (hb.cell (p := ⟨b', o' + k, none⟩) g3).trans (G4.out k (by omega))
          have k1 : (k : Int) < xs.length := by omega
          have k2 : (k : Int) < ys.length := by omega
          have k0 : (0 : Int) ≤ k := by omega
          obtain ⟨x, hx⟩ : ∃ x, x = xs.getD k 0 := ⟨_, rfl⟩
          obtain ⟨y, hy⟩ : ∃ y, y = ys.getD k 0 := ⟨_, rfl⟩
          rw [← hx] at hc; rw [← hy] at hd
          have HX := Lib.hid hx; have HY := Lib.hid hy; clear hx hy
          by_cases hxy : x = y
          · have t : (x != y) = false := by rw [hxy]; simp
            have E := Lib.hid hxy; clear hxy
            go_wp2_with fail
            go_quiet (fail)
            go_wp2
            go_roundw
            case rel =>
              refine ⟨k + 1, by omega, rfl, fun j hj => ?_, b_drewN hb _⟩
              rcases Nat.lt_or_ge j k with q | q
              · exact hi.out j q
              · have e : j = k := by omega
                rw [e, ← HX.out, ← HY.out, E.out]
            case measure => simp [intOf]; omega
          · have t : (x != y) = true := by rw [bne_iff_ne]; exact hxy
            have E := Lib.hid hxy; clear hxy
            go_wp2_with fail
            go_quiet (fail)
            go_wp2
            go_ret
            refine ⟨?_, b_drewN hb _⟩
            have hne : xs ≠ ys := fun h => E.out (by rw [HX.out, HY.out, h])
            rw [decide_eq_false hne]; rfl
        · go_wp2
          go_ret
          have he : xs = ys := eq_take HN.out (fun j hj => hi.out j (by omega))
          exact ⟨by rw [decide_eq_true he]; rfl, hb⟩
    · obtain ⟨a, cap, rfl⟩ := readI_len h
      obtain ⟨a', cap', rfl⟩ := readI_len h'
      have hx : xs = [] := List.eq_nil_of_length_eq_zero (by omega)
      have hy : ys = [] := List.eq_nil_of_length_eq_zero (by omega)
      subst hx; subst hy
      clear h h' hn h0
      go_enter Tryd.func31, Tryd.ntmps31
      go_wp2
      go_loopw [13] (fun i wr => i = .int .i64 0 ∧ Below w.heap.size w wr) (fun _ _ => 0)
      case atStart => exact ⟨rfl, Below.refl _ _⟩
      case round =>
        obtain ⟨rfl, hb⟩ := hrel
        go_wp2
        go_ret
        exact ⟨rfl, hb⟩
  · obtain ⟨a, cap, rfl⟩ := readI_len h
    obtain ⟨a', cap', rfl⟩ := readI_len h'
    have t0 : ((xs.length : Int) != (ys.length : Int)) = true := by rw [bne_iff_ne]; omega
    have hne : xs ≠ ys := fun e => hn (by rw [e])
    have HN := Lib.hid hne
    clear h h' hn hne
    go_enter Tryd.func31, Tryd.ntmps31
    go_wp2
    go_ret
    exact ⟨by rw [decide_eq_false HN.out]; rfl, Below.refl _ _⟩
end
end Go.Proofs.YtedmjlhgpdeafaaDoor
