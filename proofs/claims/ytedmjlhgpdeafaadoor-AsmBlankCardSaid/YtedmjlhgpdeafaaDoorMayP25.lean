/- Layer 25: the program's own May. Conditions: what is asked reads as lists. -/
import Derived.Test.YtedmjlhgpdeafaaDoorMayPb
namespace Go.Proofs.YtedmjlhgpdeafaaDoor
open Go.RowKit
set_option linter.unusedVariables false
set_option linter.unusedSimpArgs false
attribute [local go_sem] over_cell over_frozen
theorem pmay1_any (v : FnV) (f : FnM) (w : World) (h : DeepF w v f) : Calls Tryd.prog 60 #[.agg #[v.p.v, v.l.v, .int .i64 v.r, v.c.v]] w fun e w' => e = .returned (.bool (!mayF f)) ∧ Below w.heap.size w w' := by
  obtain ⟨t, ht⟩ : ∃ t, t = mayF f := ⟨_, rfl⟩
  rw [← ht]
  have HT := Lib.hid ht
  have H := Lib.hid h
  clear ht h
  go_enter Tryd.func60, Tryd.ntmps60
  go_wp2_with fail
  refine (fmay_any v f _ (deepF_below H.out (b_alloc (Below.refl _ _) _))).mono ?_
  rintro e w' ⟨rfl, hb⟩
  rw [← HT.out]
  have HB := Lib.hid (b_call (b_alloc (Below.refl _ _) _) hb)
  clear hb
  cases t
  · go_wp2_with fail
    go_ret
    exact ⟨rfl, HB.out⟩
  · go_wp2_with fail
    go_ret
    exact ⟨rfl, HB.out⟩
set_option maxHeartbeats 800000 in
theorem idxF_any (u : Value) (fs : List FnM) (w : World) (h : ReadFs w u fs) : Calls Tryd.prog 81 #[u, .func (.func 60) #[] #[]] w (IdxEnd (fs.all mayF) w) := by
  obtain ⟨L, hL, hA⟩ := h
  obtain ⟨a, cap, rfl, _⟩ := readR_len hL
  have hl : (L.length : Int) ≤ 9223372036854775807 := by
    obtain ⟨_, _, e, h1, h2, _⟩ := hL; have := cap_le h2; omega
  have HL := Lib.hid hL
  have HA := Lib.hid hA
  have HFL := Lib.hid (allF_len hA)
  clear hL hA
  go_enter Tryd.func81, Tryd.ntmps81
  go_wp2_with fail
  go_loopw [8] (fun i wr => ∃ k : Nat, k ≤ L.length ∧ i = .int .i64 k ∧ Hid (Below w.heap.size w wr) ∧ Hid ((fs.take k).all mayF = true)) (fun i _ => L.length - (intOf i).toNat)
  case atStart => exact ⟨0, Nat.zero_le _, rfl, Below.refl _ _, rfl⟩
  case round =>
    obtain ⟨k, hk, rfl, hb, hp⟩ := hrel
    have k0 : (0 : Int) ≤ k := by omega
    by_cases hlt : k < L.length
    · obtain ⟨bl, off, cp, e1, r1, r2, hbl, r4⟩ := readR_pos HL.out (by omega)
      cases e1
      have k1 : (k : Int) < L.length := by omega
      have hc := fn_cells r4 k hlt
      rw [← (bcell hb.out).1 _ _ hbl, ← (bcell hb.out).1 _ _ hbl, ← (bcell hb.out).1 _ _ hbl, ← (bcell hb.out).1 _ _ hbl] at hc
      have kf : k < fs.length := by rw [← HFL.out]; exact hlt
      have DF := Lib.hid (allF_at HA.out k hlt kf)
      have HF : Hid (mayF fs[k] = false → fs.all mayF = false) := fun q => all_false kf q
      have HT : Hid (mayF fs[k] = true → (fs.take (k + 1)).all mayF = true) := fun q => all_take kf hp.out q
      generalize fs[k] = f at *
      generalize L[k] = x at *
      obtain ⟨⟨pa, pn, pc⟩, ⟨la, ln, lc⟩, r, ⟨ca, cn, cc⟩⟩ := x
      simp only at hc
      obtain ⟨c0, c1, c2, c3⟩ := hc
      clear r4
      go_wp2_with fail
      refine (pmay1_any ⟨⟨pa, pn, pc⟩, ⟨la, ln, lc⟩, r, ⟨ca, cn, cc⟩⟩ f _ (deepF_below DF.out hb.out)).mono ?_
      rintro e w' ⟨rfl, hb1⟩
      obtain ⟨t, ht⟩ : ∃ t, t = mayF f := ⟨_, rfl⟩
      rw [← ht]
      have HK := Lib.hid ht
      have HB1 := Lib.hid (b_call hb.out hb1)
      clear ht hb1
      cases t
      · go_wp2_with fail
        go_ret
        exact ⟨_, rfl, Or.inr ⟨HF.out HK.out.symm, k0⟩, HB1.out⟩
      · go_wp2_with fail
        go_roundw
        case rel => exact ⟨k + 1, by omega, by first | rfl | trivial | go_num, HB1.out, HT.out HK.out.symm⟩
        case measure => simp [intOf]; omega
    · have hall : fs.all mayF = true := by have q := hp.out; have := HFL.out; rw [List.take_of_length_le (by omega)] at q; exact q
      have HALL := Lib.hid hall
      clear hall hp
      go_wp2_with fail
      go_ret
      exact ⟨_, rfl, Or.inl ⟨HALL.out, rfl⟩, hb.out⟩
theorem contF_any (u : Value) (fs : List FnM) (w : World) (h : ReadFs w u fs) : Calls Tryd.prog 59 #[u, .func (.func 60) #[] #[]] w fun e w' => e = .returned (.bool (!(fs.all mayF))) ∧ Below w.heap.size w w' := by
  obtain ⟨t, ht⟩ : ∃ t, t = fs.all mayF := ⟨_, rfl⟩
  rw [← ht]
  have HT := Lib.hid ht
  clear ht
  go_enter Tryd.func59, Tryd.ntmps59
  go_wp2_with fail
  refine (idxF_any _ fs _ h).mono ?_
  rintro e w' ⟨i, rfl, hi, hb⟩
  rw [← HT.out] at hi
  cases t
  · have hi : 0 ≤ i := by simpa using hi
    go_wp2_with fail
    go_ret
    exact ⟨rfl, hb⟩
  · have hi : i = -1 := by simpa using hi
    subst hi
    go_wp2_with fail
    go_ret
    exact ⟨rfl, hb⟩
set_option maxRecDepth 100000 in
set_option maxHeartbeats 2000000 in
theorem pmay_any (p : PrV) (P : PrM) (w : World) (h : ReadP w p P) : Calls Tryd.prog 30 #[aggP p] w fun e w' => e = .returned (.bool (mayP P)) ∧ Below w.heap.size w w' := by
  obtain ⟨u, ⟨ga, gn, gc⟩, m, ⟨fa, fn, fc⟩⟩ := p
  obtain ⟨pu, gl, pm, fs⟩ := P
  obtain ⟨hu, hg, hm, hf⟩ := h
  simp only at hu hm
  subst hm
  clear hu
  obtain ⟨hg1, hg2, hg3⟩ := sli_cap (show ReadI w (.slice ga gn gc) gl from hg)
  subst hg3
  have hfl : fn = fs.length := by
    obtain ⟨L, hL, hA⟩ := hf
    exact (slr_cap (show ReadR fnE w (.slice fa fn fc) L from hL)).2.2.trans (allF_len hA)
  subst hfl
  have hfm : fs.length ≤ fc ∧ fc ≤ maxLen := by
    obtain ⟨L, hL, hA⟩ := hf
    have := slr_cap (show ReadR fnE w (.slice fa fs.length fc) L from hL); exact ⟨this.1, this.2.1⟩
  have hfm2 := cap_le hfm.2
  have hgm := cap_le hg2
  have HG := Lib.hid (show ReadI w (.slice ga gl.length gc) gl from hg)
  have HF := Lib.hid (show ReadFs w (.slice fa fs.length fc) fs from hf)
  have HM2 : Hid (mayP ⟨pu, gl, m, fs⟩ = (decide (1 ≤ fs.length) && (decide (fs.length ≤ 16) && (decide (0 ≤ m) && (decide (m ≤ 4) && (kindsB gl 8 && fs.all mayF)))))) := rfl
  clear hg hf hg2
  obtain ⟨hfm1, _⟩ := hfm
  obtain ⟨t, ht⟩ : ∃ t, t = mayP ⟨pu, gl, m, fs⟩ := ⟨_, rfl⟩
  rw [← ht]
  have HT := Lib.hid ht
  clear ht
  unfold aggP Sl.v
  simp only
  by_cases c1 : 8 < gl.length
  · have c1' : (8 : Int) < gl.length := by omega
    obtain rfl : t = false := by rw [HT.out, HM2.out]; unfold kindsB; rw [decide_eq_false (show ¬ (gl.length : Int) ≤ 8 by omega)]; simp
    go_enter Tryd.func30, Tryd.ntmps30
    go_wp2_with fail
    go_ret
    exact ⟨rfl, b_alloc (Below.refl _ _) _⟩
  have c1' : ¬ (8 : Int) < gl.length := by omega
  go_enter Tryd.func30, Tryd.ntmps30
  go_wp2_with fail
  refine (right_any _ gl _ (readI_below HG.out (b_alloc (Below.refl _ _) _))).mono ?_
  rintro e w' ⟨rfl, rfl⟩
  obtain ⟨t1, ht1⟩ : ∃ t, t = gl.all kindB := ⟨_, rfl⟩
  rw [← ht1]
  have HT1 := Lib.hid ht1
  clear ht1
  cases t1
  · obtain rfl : t = false := by rw [HT.out, HM2.out]; unfold kindsB; rw [← HT1.out]; simp
    go_wp2_with fail
    go_ret
    exact ⟨rfl, b_alloc (Below.refl _ _) _⟩
  by_cases c2 : m < 0
  · obtain rfl : t = false := by rw [HT.out, HM2.out, decide_eq_false (show ¬ 0 ≤ m by omega)]; simp
    go_wp2_with fail
    go_ret
    exact ⟨rfl, b_alloc (Below.refl _ _) _⟩
  by_cases c3 : 4 < m
  · obtain rfl : t = false := by rw [HT.out, HM2.out, decide_eq_false (show ¬ m ≤ 4 by omega)]; simp
    go_wp2_with fail
    go_ret
    exact ⟨rfl, b_alloc (Below.refl _ _) _⟩
  by_cases c4 : fs.length < 1
  · have c4' : (fs.length : Int) < 1 := by omega
    obtain rfl : t = false := by rw [HT.out, HM2.out, decide_eq_false (show ¬ 1 ≤ fs.length by omega)]; simp
    go_wp2_with fail
    go_ret
    exact ⟨rfl, b_alloc (Below.refl _ _) _⟩
  have c4' : ¬ (fs.length : Int) < 1 := by omega
  by_cases c5 : 16 < fs.length
  · have c5' : (16 : Int) < fs.length := by omega
    obtain rfl : t = false := by rw [HT.out, HM2.out, decide_eq_false (show ¬ fs.length ≤ 16 by omega)]; simp
    go_wp2_with fail
    go_ret
    exact ⟨rfl, b_alloc (Below.refl _ _) _⟩
  have c5' : ¬ (16 : Int) < fs.length := by omega
  have HM3 : Hid (t = fs.all mayF) := by
    show _ = _
    rw [HT.out, HM2.out, decide_eq_true (show 1 ≤ fs.length by omega), decide_eq_true (show fs.length ≤ 16 by omega), decide_eq_true (show 0 ≤ m by omega), decide_eq_true (show m ≤ 4 by omega)]
    unfold kindsB
    rw [← HT1.out, decide_eq_true (show (gl.length : Int) ≤ 8 by omega)]
    rfl
  clear HT HM2
  go_wp2_with fail
  refine (contF_any _ fs _ (readFs_below HF.out (b_alloc (Below.refl _ _) _))).mono ?_
  rintro e w1 ⟨rfl, hb1⟩
  rw [← HM3.out]
  have HB1 := Lib.hid (b_call (b_alloc (Below.refl _ _) _) hb1)
  clear hb1
  cases t
  · go_wp2_with fail
    go_ret
    exact ⟨rfl, HB1.out⟩
  · go_wp2_with fail
    go_ret
    exact ⟨rfl, HB1.out⟩
end Go.Proofs.YtedmjlhgpdeafaaDoor
