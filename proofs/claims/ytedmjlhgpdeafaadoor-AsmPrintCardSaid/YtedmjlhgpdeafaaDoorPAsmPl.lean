/- AsmPrint, walked: whatever the program and the instruction, the answer is true. Conditions: the program reads as lists, its instructions' numbers are of their kinds; where the library's MaxLen stands is known. -/
import Derived.Test.YtedmjlhgpdeafaaDoorPAsmPr
import Derived.Test.YtedmjlhgpdeafaaDoorPAsmSh
import Derived.Test.YtedmjlhgpdeafaaDoorPAsmY
import Derived.Test.YtedmjlhgpdeafaaDoorPOursB25
import Derived.Test.YtedmjlhgpdeafaaDoorPEqN25
namespace Go.Proofs.YtedmjlhgpdeafaaDoor
open Go.RowKit
set_option linter.unusedVariables false
set_option linter.unusedSimpArgs false
attribute [local go_sem] over_cell over_frozen
theorem box2 (w : World) (c1 c2 : Array Value) (T1 T2 : TypeId) : Blk ((w.alloc (.cells c1 T1)).alloc (.cells c2 T2)) w.heap.size c1.toList ∧ Blk ((w.alloc (.cells c1 T1)).alloc (.cells c2 T2)) (w.heap.size + 1) c2.toList ∧ Below w.heap.size w ((w.alloc (.cells c1 T1)).alloc (.cells c2 T2)) := by
  refine ⟨blk_alloc (blk_new _ _ _) _, ?_, b_alloc (b_alloc (Below.refl _ _) _) _⟩
  have z := blk_new (w.alloc (.cells c1 T1)) c2 T2
  rw [World.size_alloc] at z
  exact z
set_option maxRecDepth 100000 in
set_option maxHeartbeats 8000000 in
theorem asmPrint_any (p : PrV) (P : PrM) (op x a b : Int) (w : World) (h : ReadP w p P) (hg : GoodP P) (hx0 : 0 ≤ x) (hx1 : x < 18446744073709551616) (hm : MaxAt w) : Calls Tryd.prog 4 #[aggP p, .agg #[.int .i64 op, .int .u64 x, .int .i64 a, .int .i64 b]] w fun e w' => e = .returned (.bool true) ∧ Below w.heap.size w w' := by
  obtain ⟨u, ⟨ga, gn, gc⟩, m, ⟨fa, fn, fc⟩⟩ := p
  have HR := Lib.hid h
  have HM := Lib.hid hm
  have HSM := Lib.hid (short_small P)
  have HGD := Lib.hid (good_cut hg)
  have HXX := Lib.hid (And.intro hx0 hx1)
  clear h hm hg hx0 hx1
  unfold aggP Sl.v
  simp only
  generalize hC : shortP P = C at *
  go_enter Tryd.func4, Tryd.ntmps4
  go_upto_region 1 with fail
  refine wp_named ?_
  intro W hW
  have HX : Hid (Blk W w.heap.size [.bool u, .slice ga gn gc, .int .i64 m, .slice fa fn fc] ∧ Blk W (w.heap.size + 1) [.int .i64 op, .int .u64 x, .int .i64 a, .int .i64 b] ∧ Below w.heap.size w W) := Lib.hid (by rw [hW]; exact box2 w _ _ _ _)
  clear hW
  obtain ⟨x0, x1, x2, x3, xf⟩ := blk4 HX.out.1
  have xz := HX.out.1.1
  have HC := Lib.hid (short_any ⟨u, ⟨ga, gn, gc⟩, m, ⟨fa, fn, fc⟩⟩ P w W HR.out HX.out.2.2)
  rw [hC] at HC
  clear hC
  unfold aggP Sl.v at HC
  simp only at HC
  go_wp2_with fail
  refine (HC.out).mono ?_
  rintro e w1 ⟨q, rfl, hq, hb1⟩
  obtain ⟨qu, ⟨qa, qn, qc⟩, qm, ⟨ra, rn, rc⟩⟩ := q
  have HB1 := Lib.hid hb1
  have HQ := Lib.hid hq
  clear hq hb1 HC x0 x1 x2 x3 xf xz
  obtain ⟨x0, x1, x2, x3, xf⟩ := blk4 (blk_below HX.out.1 HB1.out)
  have xz := (blk_below HX.out.1 HB1.out).1
  simp only
  go_upto_region 2 with fail
  refine wp_named ?_
  intro W2 hW2
  have HX2 : Hid (Blk W2 w.heap.size [.bool qu, .slice qa qn qc, .int .i64 qm, .slice ra rn rc]) := Lib.hid (by rw [hW2]; exact blk_set (blk_set (blk_set (blk_set (blk_below HX.out.1 HB1.out) 0 _) 1 _) 2 _) 3 _)
  have HI2 : Hid (Blk W2 (w.heap.size + 1) [.int .i64 op, .int .u64 x, .int .i64 a, .int .i64 b]) := Lib.hid (by
    have hne : w.heap.size ≠ w.heap.size + 1 := by omega
    rw [hW2]; exact blk_other (blk_other (blk_other (blk_other (blk_below HX.out.2.1 HB1.out) hne _) hne _) hne _) hne _)
  have HB2 : Hid (Below w.heap.size w W2) := Lib.hid (by rw [hW2]; exact b_set (b_set (b_set (b_set (b_call HX.out.2.2 HB1.out) (Nat.le_refl _) _) (Nat.le_refl _) _) (Nat.le_refl _) _) (Nat.le_refl _) _)
  have HP2 : Hid (ReadP W2 ⟨qu, ⟨qa, qn, qc⟩, qm, ⟨ra, rn, rc⟩⟩ C) := Lib.hid (shortMade_read (shortMade_grown HQ.out (j := w.heap.size) (by rw [hW2]; exact gb_set (gb_set (gb_set (gb_set (gb_refl w1 (some w.heap.size)) 0 none _) 1 none _) 2 none _) 3 none _) (by have := HX.out.1.1; omega)) HB2.out)
  clear hW2 x0 x1 x2 x3 xf xz HQ HX HB1
  have HY : Hid (∀ w', Below W2.heap.size W2 w' → w'.cell? ⟨w.heap.size, 0, none⟩ = some (.bool qu) ∧ w'.cell? ⟨w.heap.size, 1, none⟩ = some (.slice qa qn qc) ∧ w'.cell? ⟨w.heap.size, 2, none⟩ = some (.int .i64 qm) ∧ w'.cell? ⟨w.heap.size, 3, none⟩ = some (.slice ra rn rc)) := Lib.hid (fun w' hb => by
    obtain ⟨y0, y1, y2, y3, _⟩ := blk4 (blk_below HX2.out hb)
    exact ⟨y0, y1, y2, y3⟩)
  have HZ : Hid (∀ w', Below W2.heap.size W2 w' → (w'.cell? ⟨w.heap.size + 1, 0, none⟩ = some (.int .i64 op) ∧ w'.cell? ⟨w.heap.size + 1, 1, none⟩ = some (.int .u64 x) ∧ w'.cell? ⟨w.heap.size + 1, 2, none⟩ = some (.int .i64 a) ∧ w'.cell? ⟨w.heap.size + 1, 3, none⟩ = some (.int .i64 b)) ∧ w.heap.size + 1 < w'.heap.size) := Lib.hid (fun w' hb => by
    obtain ⟨y0, y1, y2, y3, _⟩ := blk4 (blk_below HI2.out hb)
    exact ⟨⟨y0, y1, y2, y3⟩, Nat.lt_of_lt_of_le HI2.out.1 hb.size⟩)
  have HO24 := Lib.hid (fun w => ours_any op x a b w)
  have HM24 := Lib.hid (fun w => rmay_any op x a b w)
  -- the line
  go_cut [5, 6] (fun s5 s6 wc => ((mayB op x a b = true ∧ s5 = strV (lineL ⟨op, x, a, b⟩) ∧ s6 = .int .i64 0) ∨ (mayB op x a b = false ∧ s5 = strV [] ∧ s6 = .int .i64 1)) ∧ Hid (Below W2.heap.size W2 wc))
  case first =>
    obtain ⟨⟨y0, y1, y2, y3⟩, yz⟩ := HZ.out W2 (Below.refl _ _)
    go_wp2_with fail
    refine (HO24.out _).mono ?_
    rintro e v1 ⟨rfl, hb1⟩
    have HV1 : Hid (Below W2.heap.size W2 v1) := Lib.hid hb1
    clear hb1 y0 y1 y2 y3 yz
    cases hmi : mayB op x a b with
    | true =>
      have HAL := Lib.hid (fun w => aline_yes op x a b hmi HXX.out.1 HXX.out.2 w)
      have HMI := Lib.hid hmi
      clear hmi
      go_wp2_with fail
      refine (HAL.out _).mono ?_
      rintro e v2 ⟨rfl, hb2⟩
      have HV2 : Hid (Below W2.heap.size W2 v2) := Lib.hid (b_call HV1.out hb2)
      clear hb2
      go_wp2_with fail
      go_meet
      case rel => exact ⟨Or.inl ⟨HMI.out, rfl, rfl⟩, HV2⟩
    | false =>
      have HAL := Lib.hid (fun w => aline_no op x a b hmi w)
      have HMI := Lib.hid hmi
      clear hmi
      go_wp2_with fail
      refine (HAL.out _).mono ?_
      rintro e v2 ⟨rfl, hb2⟩
      have HV2 : Hid (Below W2.heap.size W2 v2) := Lib.hid (b_call HV1.out hb2)
      clear hb2
      go_wp2_with fail
      go_meet
      case rel => exact ⟨Or.inr ⟨HMI.out, rfl, rfl⟩, HV2⟩
  case rest =>
  obtain ⟨hor, HV2⟩ := hcut
  obtain ⟨v2, hv2⟩ : ∃ z, z = wc := ⟨_, rfl⟩
  subst hv2
  go_upto_region 3 with fail
  go_cut [44] (fun s44 wc => s44 = .bool false ∧ Hid (Below W2.heap.size W2 wc))
  case first =>
    obtain ⟨⟨y0, y1, y2, y3⟩, yz⟩ := HZ.out v2 HV2.out
    rcases hor with ⟨hmi, rfl, rfl⟩ | ⟨hmi, rfl, rfl⟩
    · have HRL := Lib.hid (fun w => rline_any op x a b hmi HXX.out.1 HXX.out.2 w)
      rw [hmi] at HM24
      clear hmi
      generalize lineL ⟨op, x, a, b⟩ = li at *
      unfold strV at *
      go_wp2_with fail
      refine (HM24.out _).mono ?_
      rintro e v3 ⟨rfl, hb3⟩
      have HV3 : Hid (Below W2.heap.size W2 v3) := Lib.hid (b_call HV2.out hb3)
      clear hb3 y0 y1 y2 y3 yz
      obtain ⟨⟨y0, y1, y2, y3⟩, yz⟩ := HZ.out v3 HV3.out
      go_wp2_with fail
      refine (HRL.out _).mono ?_
      rintro e v4 ⟨rfl, hb4⟩
      have HV4 : Hid (Below W2.heap.size W2 v4) := Lib.hid (b_call HV3.out hb4)
      clear hb4 y0 y1 y2 y3 yz
      obtain ⟨⟨y0, y1, y2, y3⟩, yz⟩ := HZ.out v4 HV4.out
      go_wp2_with fail
      refine (HM24.out _).mono ?_
      rintro e v5 ⟨rfl, hb5⟩
      have HV5 : Hid (Below W2.heap.size W2 v5) := Lib.hid (b_call HV4.out hb5)
      clear hb5 y0 y1 y2 y3 yz
      go_wp2_with fail
      go_meet
      case rel => exact ⟨rfl, HV5⟩
    · rw [hmi] at HM24
      clear hmi
      unfold strV at *
      go_wp2_with fail
      refine (HM24.out _).mono ?_
      rintro e v3 ⟨rfl, hb3⟩
      have HV3 : Hid (Below W2.heap.size W2 v3) := Lib.hid (b_call HV2.out hb3)
      clear hb3 y0 y1 y2 y3 yz
      obtain ⟨⟨y0, y1, y2, y3⟩, yz⟩ := HZ.out v3 HV3.out
      go_wp2_with fail
      refine (HM24.out _).mono ?_
      rintro e v5 ⟨rfl, hb5⟩
      have HV5 : Hid (Below W2.heap.size W2 v5) := Lib.hid (b_call HV3.out hb5)
      clear hb5 y0 y1 y2 y3 yz
      go_wp2_with fail
      go_meet
      case rel => exact ⟨rfl, HV5⟩
  case rest =>
  clear hor
  obtain ⟨rfl, HVC⟩ := hcut
  obtain ⟨w3, hw3⟩ : ∃ z, z = wc := ⟨_, rfl⟩
  subst hw3
  obtain ⟨x0, x1, x2, x3⟩ := HY.out w3 HVC.out
  have xz : w.heap.size < w3.heap.size := Nat.lt_of_lt_of_le HX2.out.1 HVC.out.size
  have HOU := Lib.hid (fun w' (hb : Below W2.heap.size W2 w') => ours25_any ⟨qu, ⟨qa, qn, qc⟩, qm, ⟨ra, rn, rc⟩⟩ C w' (readP_below HP2.out hb) HSM.out.1)
  unfold aggP Sl.v at HOU
  simp only at HOU
  go_wp2_with fail
  refine (HOU.out _ HVC.out).mono ?_
  rintro e w4 ⟨o4, rfl, ho4, hb4⟩
  obtain ⟨ou4, ⟨oa4, on4, oc4⟩, om4, ⟨pa4, pn4, pc4⟩⟩ := o4
  have HO4 := Lib.hid ho4
  have HB4 : Hid (Below W2.heap.size W2 w4) := Lib.hid (b_call HVC.out hb4)
  clear ho4 hb4 x0 x1 x2 x3 xz HVC
  simp only
  cases hmay : mayP C with
  | false =>
    have HPN := Lib.hid (aprint_no _ C w4 HO4.out hmay)
    have HMAY := Lib.hid (fun w' (hb : Below W2.heap.size W2 w') => rmay25_any ⟨qu, ⟨qa, qn, qc⟩, qm, ⟨ra, rn, rc⟩⟩ C w' (readP_below HP2.out hb))
    rw [hmay] at HMAY
    clear hmay
    unfold aggP Sl.v at HMAY HPN
    unfold strV at HPN
    simp only at HMAY HPN
    go_wp2_with fail
    refine (HPN.out).mono ?_
    rintro e w5 ⟨rfl, hb5⟩
    have HB5 : Hid (Below W2.heap.size W2 w5) := Lib.hid (b_call HB4.out hb5)
    clear hb5
    obtain ⟨x0, x1, x2, x3⟩ := HY.out w5 HB5.out
    have xz : w.heap.size < w5.heap.size := Nat.lt_of_lt_of_le HX2.out.1 HB5.out.size
    go_wp2_with fail
    refine (HMAY.out _ HB5.out).mono ?_
    rintro e w6 ⟨rfl, hb6⟩
    have HB6 : Hid (Below W2.heap.size W2 w6) := Lib.hid (b_call HB5.out hb6)
    clear hb6 x0 x1 x2 x3 xz
    have HAW := Lib.hid (awake34 w6 (max_below HM.out (b_call HB2.out HB6.out)))
    go_wp2_with fail
    refine (HAW.out).mono ?_
    rintro e w7 ⟨rfl, hb7⟩
    have HB7 := Lib.hid (b_call HB2.out (b_call HB6.out hb7))
    clear hb7
    go_wp2_with fail
    go_ret
    exact ⟨rfl, HB7.out⟩
  | true =>
    have HMC := Lib.hid hmay
    have HPN := Lib.hid (aprint_yes _ C w4 HO4.out hmay HGD.out)
    have HMAY := Lib.hid (fun w' (hb : Below W2.heap.size W2 w') => rmay25_any ⟨qu, ⟨qa, qn, qc⟩, qm, ⟨ra, rn, rc⟩⟩ C w' (readP_below HP2.out hb))
    have HPR := Lib.hid (fun w' (hb : Below W2.heap.size W2 w') => rprint_any ⟨qu, ⟨qa, qn, qc⟩, qm, ⟨ra, rn, rc⟩⟩ C w' (readP_below HP2.out hb) hmay HGD.out)
    rw [hmay] at HMAY
    have hpl := plen34 hmay HSM.out.2
    have HPA := Lib.hid (fun w' (hb : Below W2.heap.size W2 w') => aparse_any (printL C) w' (by omega) (max_below HM.out (b_call HB2.out hb)))
    rw [parse_print hmay HGD.out] at HPA
    clear hmay
    generalize printL C = T at *
    unfold aggP Sl.v at HMAY HPN HPR
    unfold strV at HPN HPR HPA
    unfold ParseEnd at HPA
    simp only at HMAY HPN HPR HPA
    go_wp2_with fail
    refine (HPN.out).mono ?_
    rintro e w5 ⟨rfl, hb5⟩
    have HB5 : Hid (Below W2.heap.size W2 w5) := Lib.hid (b_call HB4.out hb5)
    clear hb5
    obtain ⟨x0, x1, x2, x3⟩ := HY.out w5 HB5.out
    have xz : w.heap.size < w5.heap.size := Nat.lt_of_lt_of_le HX2.out.1 HB5.out.size
    go_wp2_with fail
    refine (HMAY.out _ HB5.out).mono ?_
    rintro e w6 ⟨rfl, hb6⟩
    have HB6 : Hid (Below W2.heap.size W2 w6) := Lib.hid (b_call HB5.out hb6)
    clear hb6 x0 x1 x2 x3 xz
    go_wp2_with fail
    refine (HPA.out _ HB6.out).mono ?_
    rintro e w7 ⟨hb7, q, rfl, hq⟩
    obtain ⟨zu, ⟨za, zn, zc⟩, zm, ⟨va, vn, vc⟩⟩ := q
    have HQ7 := Lib.hid hq
    have HB7 : Hid (Below W2.heap.size W2 w7) := Lib.hid (b_call HB6.out hb7)
    clear hb7 hq
    unfold aggP Sl.v
    simp only
    go_upto_region 9 with fail
    refine wp_named ?_
    intro W8 hW8
    have HX8 : Hid (Blk W8 w7.heap.size [.bool zu, .slice za zn zc, .int .i64 zm, .slice va vn vc]) := Lib.hid (by rw [hW8]; exact blk_new _ _ _)
    have HB78 : Hid (Below w7.heap.size w7 W8) := Lib.hid (by rw [hW8]; exact b_alloc (Below.refl _ _) _)
    have HB8 : Hid (Below W2.heap.size W2 W8) := Lib.hid (b_call HB7.out HB78.out)
    clear hW8
    have HS9 : Hid (∀ w', Below W8.heap.size W8 w' → (w'.cell? ⟨w7.heap.size, 0, none⟩ = some (.bool zu) ∧ w'.cell? ⟨w7.heap.size, 1, none⟩ = some (.slice za zn zc) ∧ w'.cell? ⟨w7.heap.size, 2, none⟩ = some (.int .i64 zm) ∧ w'.cell? ⟨w7.heap.size, 3, none⟩ = some (.slice va vn vc)) ∧ (w'.cell? ⟨w.heap.size, 0, none⟩ = some (.bool qu) ∧ w'.cell? ⟨w.heap.size, 1, none⟩ = some (.slice qa qn qc) ∧ w'.cell? ⟨w.heap.size, 2, none⟩ = some (.int .i64 qm) ∧ w'.cell? ⟨w.heap.size, 3, none⟩ = some (.slice ra rn rc))) := Lib.hid (fun w' hb => by
      obtain ⟨y0, y1, y2, y3, _⟩ := blk4 (blk_below HX8.out hb)
      exact ⟨⟨y0, y1, y2, y3⟩, HY.out w' (b_call HB8.out hb)⟩)
    refine wp_region_held_drew (S := (fun w' => (w'.cell? ⟨w7.heap.size, 0, none⟩ = some (.bool zu) ∧ w'.cell? ⟨w7.heap.size, 1, none⟩ = some (.slice za zn zc) ∧ w'.cell? ⟨w7.heap.size, 2, none⟩ = some (.int .i64 zm) ∧ w'.cell? ⟨w7.heap.size, 3, none⟩ = some (.slice va vn vc)) ∧ (w'.cell? ⟨w.heap.size, 0, none⟩ = some (.bool qu) ∧ w'.cell? ⟨w.heap.size, 1, none⟩ = some (.slice qa qn qc) ∧ w'.cell? ⟨w.heap.size, 2, none⟩ = some (.int .i64 qm) ∧ w'.cell? ⟨w.heap.size, 3, none⟩ = some (.slice ra rn rc)))) (by kernel_rfl) (HS9.out _ (b_drew (Below.refl _ _))) (fun hHeld => ?_)
    refine atI 0 ?_
    iterate 5 (refine takeN (v := ?_) rfl (by rfl) ?_ hHeld ?_; rotate_left; (focus (intro w hSw; (try dsimp only at hSw); go_simp; try (with_reducible rfl))); (try simp only [Act.put, Nat.reduceAdd, List.getElem_toArray, List.getElem_cons_succ, List.getElem_cons_zero, List.setIfInBounds_toArray, List.set_cons_zero, List.set_cons_succ]))
    refine atIo ?_
    refine wpAnyH_ready (rs := [5]) (by kernel_rfl) (by simp) (AllReadyH.cons rfl (fun K hK => ?_) AllReadyH.nil)
    go_simp
    refine (HPR.out _ (b_call HB8.out (by (repeat' (first | exact Below.refl _ _ | assumption | refine b_alloc ?_ _ | refine b_over ?_ _ | refine b_drew ?_ | refine b_call ?_ (by assumption)))))).mono ?_
    rintro e w20 ⟨rfl, hb20⟩
    refine hK.out _ _ (HS9.out _ (by (repeat' (first | exact Below.refl _ _ | assumption | refine b_alloc ?_ _ | refine b_over ?_ _ | refine b_drew ?_ | refine b_call ?_ (by assumption))))) (fun hHeld => ?_)
    clear hK K
    (try simp only [Act.put, List.getElem_toArray, List.getElem_cons_succ, List.getElem_cons_zero, List.setIfInBounds_toArray, List.set_cons_zero, List.set_cons_succ])
    refine atI 6 ?_
    iterate 13 (refine takeN (v := ?_) rfl (by rfl) ?_ hHeld ?_; rotate_left; (focus (intro w hSw; (try dsimp only at hSw); go_simp; try (with_reducible rfl))); (try simp only [Act.put, Nat.reduceAdd, List.getElem_toArray, List.getElem_cons_succ, List.getElem_cons_zero, List.setIfInBounds_toArray, List.set_cons_zero, List.set_cons_succ]))
    refine atIo ?_
    refine wpAnyH_ready (rs := [19]) (by kernel_rfl) (by simp) (AllReadyH.cons rfl (fun K hK => ?_) AllReadyH.nil)
    go_simp
    refine (HOU.out _ (b_call HB8.out (by (repeat' (first | exact Below.refl _ _ | assumption | refine b_alloc ?_ _ | refine b_over ?_ _ | refine b_drew ?_ | refine b_call ?_ (by assumption)))))).mono ?_
    rintro e w21 ⟨o5, rfl, ho5, hb21⟩
    have HO5 := Lib.hid ho5
    obtain ⟨ou5, ⟨oa5, on5, oc5⟩, om5, ⟨pa5, pn5, pc5⟩⟩ := o5
    clear ho5
    simp only
    refine hK.out _ _ (HS9.out _ (by (repeat' (first | exact Below.refl _ _ | assumption | refine b_alloc ?_ _ | refine b_over ?_ _ | refine b_drew ?_ | refine b_call ?_ (by assumption))))) (fun hHeld => ?_)
    clear hK K
    (try simp only [Act.put, List.getElem_toArray, List.getElem_cons_succ, List.getElem_cons_zero, List.setIfInBounds_toArray, List.set_cons_zero, List.set_cons_succ])
    refine wpAnyH_ready (rs := [20]) (by kernel_rfl) (by simp) (AllReadyH.cons rfl (fun K hK => ?_) AllReadyH.nil)
    go_simp
    refine (psame_any ⟨zu, ⟨za, zn, zc⟩, zm, ⟨va, vn, vc⟩⟩ ⟨ou5, ⟨oa5, on5, oc5⟩, om5, ⟨pa5, pn5, pc5⟩⟩ C C _ (readP_below HQ7.out (b_call HB78.out (by (repeat' (first | exact Below.refl _ _ | assumption | refine b_alloc ?_ _ | refine b_over ?_ _ | refine b_drew ?_ | refine b_call ?_ (by assumption)))))) HO5.out HSM.out.1 HSM.out.1).mono ?_
    rintro e w22 ⟨bb, rfl, hbb, hb22⟩
    obtain rfl : bb = true := hbb.2 rfl
    clear hbb
    refine hK.out _ _ (HS9.out _ (by (repeat' (first | exact Below.refl _ _ | assumption | refine b_alloc ?_ _ | refine b_over ?_ _ | refine b_drew ?_ | refine b_call ?_ (by assumption))))) (fun hHeld => ?_)
    clear hK K
    (try simp only [Act.put, List.getElem_toArray, List.getElem_cons_succ, List.getElem_cons_zero, List.setIfInBounds_toArray, List.set_cons_zero, List.set_cons_succ])
    refine atI 21 ?_
    iterate 2 (refine takeN (v := ?_) rfl (by rfl) ?_ hHeld ?_; rotate_left; (focus (intro w hSw; (try dsimp only at hSw); go_simp; try (with_reducible rfl))); (try simp only [Act.put, Nat.reduceAdd, List.getElem_toArray, List.getElem_cons_succ, List.getElem_cons_zero, List.setIfInBounds_toArray, List.set_cons_zero, List.set_cons_succ]))
    refine atIo ?_
    refine wpAnyH_ready (rs := [23]) (by kernel_rfl) (by simp) (AllReadyH.cons rfl (fun K hK => ?_) AllReadyH.nil)
    go_simp
    refine (awake34 _ (max_below HM.out (b_call HB2.out (b_call HB8.out (by (repeat' (first | exact Below.refl _ _ | assumption | refine b_alloc ?_ _ | refine b_over ?_ _ | refine b_drew ?_ | refine b_call ?_ (by assumption)))))))).mono ?_
    rintro e w26 ⟨rfl, hb26⟩
    refine hK.out _ _ (HS9.out _ (by (repeat' (first | exact Below.refl _ _ | assumption | refine b_alloc ?_ _ | refine b_over ?_ _ | refine b_drew ?_ | refine b_call ?_ (by assumption))))) (fun hHeld => ?_)
    clear hK K
    (try simp only [Act.put, List.getElem_toArray, List.getElem_cons_succ, List.getElem_cons_zero, List.setIfInBounds_toArray, List.set_cons_zero, List.set_cons_succ])
    refine atI 24 ?_
    iterate 2 (refine takeN (v := ?_) rfl (by rfl) ?_ hHeld ?_; rotate_left; (focus (intro w hSw; (try dsimp only at hSw); go_simp; try (with_reducible rfl))); (try simp only [Act.put, Nat.reduceAdd, List.getElem_toArray, List.getElem_cons_succ, List.getElem_cons_zero, List.setIfInBounds_toArray, List.set_cons_zero, List.set_cons_succ]))
    refine atIo ?_
    refine wpAnyH_done (by kernel_rfl) ?_ _
    go_wp2
    go_ret
    exact ⟨rfl, b_call HB2.out (b_call HB8.out (by (repeat' (first | exact Below.refl _ _ | assumption | refine b_alloc ?_ _ | refine b_over ?_ _ | refine b_drew ?_ | refine b_call ?_ (by assumption)))))⟩
end Go.Proofs.YtedmjlhgpdeafaaDoor
