/- ObjectFields, walked: whatever shape and whatever fields are set, the answer is true. Conditions: the calls read as a list; their numbers are of their kinds. -/
import Derived.Test.YtgbbnmjfkhconaaObjW
import Derived.Test.YtgbbnmjfkhconaaObjP
namespace Go.Proofs.Ytgbbnmjfkhconaa
open Go.RowKit
set_option linter.unusedVariables false
set_option linter.unusedSimpArgs false
attribute [local go_sem] over_cell over_frozen
set_option maxRecDepth 100000 in
set_option maxHeartbeats 4000000 in
theorem objectFields_no (r n : Int) (u : Value) (w : World) (hno : ¬ (0 ≤ r ∧ 0 ≤ n ∧ r + n ≤ 15)) :
    Calls Try.prog 7 #[.agg #[.int .i64 r, .int .i64 n], u] w fun e w' => e = .returned (.bool true) ∧ Below w.heap.size w w' := by
  have HNEW := Lib.hid (anew_any 1)
  have HRB := Lib.hid (fun w => rbytes_any r n w)
  rw [(okS_no hno).2] at HRB
  unfold shp at *
  clear hno
  go_enter Try.func7, Try.ntmps7
  go_wp2_with fail
  refine (HNEW.out _).mono ?_
  rintro e w1 ⟨b, g, cap, rfl, A1, hb, hg, B1⟩
  have HB1 : Hid (Below w.heap.size w w1) := b_call (b_alloc (Below.refl _ _) _) B1
  obtain ⟨hc1, hf1⟩ := bcell B1
  have hz1 := B1.size
  simp only [World.size_alloc] at hz1
  have l1 : w.heap.size < w1.heap.size := by omega
  have x0 : w1.cell? ⟨w.heap.size, 0, none⟩ = some (.int .i64 r) := by rw [hc1 _ _ (by simp only [World.size_alloc]; omega)]; go_simp
  have x1 : w1.cell? ⟨w.heap.size, 1, none⟩ = some (.int .i64 n) := by rw [hc1 _ _ (by simp only [World.size_alloc]; omega)]; go_simp
  clear A1 hb hg B1 hc1 hf1 hz1
  unfold tp
  go_wp2_with fail
  refine (HRB.out _).mono ?_
  rintro e w2 ⟨rfl, hb2⟩
  obtain ⟨hc2, hf2⟩ := bcell hb2
  have hz2 := hb2.size
  have l2 : w.heap.size < w2.heap.size := by omega
  have y0 : w2.cell? ⟨w.heap.size, 0, none⟩ = some (.int .i64 r) := by rw [hc2 _ _ l1]; exact x0
  have y1 : w2.cell? ⟨w.heap.size, 1, none⟩ = some (.int .i64 n) := by rw [hc2 _ _ l1]; exact x1
  have HB2 := Lib.hid (b_call HB1.out hb2)
  clear hb2 hc2 hf2 hz2 x0 x1
  go_wp2_with fail
  refine (HRB.out _).mono ?_
  rintro e w3 ⟨rfl, hb3⟩
  have HB3 := Lib.hid (b_call HB2.out hb3)
  clear hb3 y0 y1
  go_wp2_with fail
  refine (awake17_any _).mono ?_
  rintro e w4 ⟨rfl, hb4⟩
  go_wp2_with fail
  go_ret
  exact ⟨rfl, b_call HB3.out hb4⟩
/-- What ObjectFields holds on its way: the arena, the two rows of what was set, the shape's box. -/
structure FlM (w wr : World) (b g cap rb ub xb : Nat) (r n : Int) (L R U : List Int) : Prop where
  a : AreAt wr b g cap L
  rr : Blk wr rb (R.map (Value.int .i64))
  uu : Blk wr ub (U.map (Value.int .u64))
  xx : Blk wr xb [.int .i64 r, .int .i64 n]
  n1 : rb ≠ b ∧ rb ≠ g ∧ ub ≠ b ∧ ub ≠ g ∧ rb ≠ ub ∧ xb ≠ b ∧ xb ≠ g ∧ xb ≠ rb ∧ xb ≠ ub
  lo : w.heap.size ≤ b ∧ w.heap.size ≤ g ∧ w.heap.size ≤ rb ∧ w.heap.size ≤ ub ∧ w.heap.size ≤ xb
  bw : Below w.heap.size w wr
theorem fl_below {w wr w' : World} {b g cap rb ub xb : Nat} {r n : Int} {L R U : List Int} (h : FlM w wr b g cap rb ub xb r n L R U) (hb : Below wr.heap.size wr w') : FlM w w' b g cap rb ub xb r n L R U :=
  ⟨are_below h.a hb, blk_below h.rr hb, blk_below h.uu hb, blk_below h.xx hb, h.n1, h.lo, b_call h.bw hb⟩
theorem fl_are {w wr w' : World} {b g cap rb ub xb : Nat} {r n : Int} {L M R U : List Int} (h : FlM w wr b g cap rb ub xb r n L R U) (hg : wr.grownBy w' (some g)) (A : AreAt w' b g cap M) : FlM w w' b g cap rb ub xb r n M R U := by
  obtain ⟨_, n2, _, n4, _, _, n7, _, _⟩ := h.n1
  exact ⟨A, blk_grown h.rr hg (by intro e; injection e with e; exact n2 e), blk_grown h.uu hg (by intro e; injection e with e; exact n4 e), blk_grown h.xx hg (by intro e; injection e with e; exact n7 e), h.n1, h.lo, b_grown h.bw hg h.lo.2.1⟩
theorem blk_set1 {w : World} {g k : Nat} {c : Int → Value} {R : List Int} (h : Blk w g (R.map c)) (hk : k < R.length) (x : Int) : Blk (w.setCell ⟨g, k, none⟩ (c x)) g ((R.set k x).map c) := by
  rw [List.map_set]
  exact blk_set h _ _
theorem fl_setr {w wr : World} {b g cap rb ub xb k : Nat} {r n : Int} {L R U : List Int} (h : FlM w wr b g cap rb ub xb r n L R U) (hk : k < R.length) (x : Int) : FlM w (wr.setCell ⟨rb, k, none⟩ (.int .i64 x)) b g cap rb ub xb r n L (R.set k x) U := by
  have G : wr.grownBy (wr.setCell ⟨rb, k, none⟩ (.int .i64 x)) (some rb) := gb_set (gb_refl _ _) _ _ _
  obtain ⟨n1, n2, n3, n4, n5, n6, n7, n8, n9⟩ := h.n1
  exact ⟨are_grown h.a G (by intro e; injection e with e; exact n1 e.symm) (by intro e; injection e with e; exact n2 e.symm), blk_set1 h.rr hk x, blk_grown h.uu G (by intro e; injection e with e; exact n5 e.symm), blk_grown h.xx G (by intro e; injection e with e; exact n8 e), h.n1, h.lo, b_set h.bw h.lo.2.2.1 _⟩
theorem fl_setu {w wr : World} {b g cap rb ub xb k : Nat} {r n : Int} {L R U : List Int} (h : FlM w wr b g cap rb ub xb r n L R U) (hk : k < U.length) (x : Int) : FlM w (wr.setCell ⟨ub, k, none⟩ (.int .u64 x)) b g cap rb ub xb r n L R (U.set k x) := by
  have G : wr.grownBy (wr.setCell ⟨ub, k, none⟩ (.int .u64 x)) (some ub) := gb_set (gb_refl _ _) _ _ _
  obtain ⟨n1, n2, n3, n4, n5, n6, n7, n8, n9⟩ := h.n1
  exact ⟨are_grown h.a G (by intro e; injection e with e; exact n3 e.symm) (by intro e; injection e with e; exact n4 e.symm), blk_grown h.rr G (by intro e; injection e with e; exact n5 e), blk_set1 h.uu hk x, blk_grown h.xx G (by intro e; injection e with e; exact n9 e), h.n1, h.lo, b_set h.bw h.lo.2.2.2.1 _⟩
theorem blk_get {w : World} {g : Nat} {c : Int → Value} {R : List Int} (h : Blk w g (R.map c)) {k : Nat} (hk : k < R.length) : w.cell? ⟨g, k, none⟩ = some (c (R.getD k 0)) := by
  have := h.2.1 k (by rw [List.length_map]; exact hk)
  rw [this, List.getElem_map, List.getD_eq_getElem?_getD, List.getElem?_eq_getElem hk]; rfl
set_option maxRecDepth 100000 in
set_option maxHeartbeats 8000000 in
theorem objectFields_yes (r n : Nat) (u : Value) (ops : List Op17) (w : World) (hrn : r + n ≤ 15) (h : ReadR op17 w u ops) (hg : ∀ o ∈ ops, Good17 o) :
    Calls Try.prog 7 #[.agg #[.int .i64 r, .int .i64 n], u] w fun e w' => e = .returned (.bool true) ∧ Below w.heap.size w w' := by
  obtain ⟨fe, ff⟩ := fds_new hrn
  have HNEW := Lib.hid (anew_any 1)
  rw [show 256 * pagesN 1 = 256 from rfl] at HNEW
  have HRB := Lib.hid (fun w => rbytes_any r n w)
  have HO := Lib.hid (fun w => ours17_any r n w)
  have hbp : bytS r n ≠ 0 := by rw [(okS_yes ⟨by omega, by omega, by omega⟩).2]; omega
  obtain ⟨ua, uc, rfl, c1, c2, c3, c4⟩ := h
  have hcm := cap_le c2
  have H4 := Lib.hid c4
  have HG := Lib.hid hg
  have hlm : (ops.length : Int) ≤ 9223372036854775807 := by omega
  have HM := Lib.hid (fun (w1 : World) (b g cap : Nat) (h1 : AreAt w1 b g cap (List.replicate 256 0)) => omake_any h1 8 r n)
  rw [fe] at HM
  generalize mkL (List.replicate 256 0) 8 r n = L at *
  generalize List.replicate 256 (0 : Int) = L0 at *
  have HF := Lib.hid ff
  have r0 : (0 : Int) ≤ r := by omega
  have n0 : (0 : Int) ≤ n := by omega
  have r15 : (r : Int) ≤ 15 := by omega
  have n15 : (n : Int) ≤ 15 := by omega
  generalize bytS r n = m at *
  unfold shp at *
  clear fe ff c4 c3 hg hrn
  go_enter Try.func7, Try.ntmps7
  go_wp2_with fail
  refine (HNEW.out _).mono ?_
  rintro e w1 ⟨b, g, cap, rfl, A1, hb, hg, B1⟩
  have HB1 : Hid (Below w.heap.size w w1) := b_call (b_alloc (Below.refl _ _) _) B1
  have HA1 := Lib.hid A1
  have HLO : Hid (w.heap.size < b ∧ w.heap.size < g) := by
    simp only [World.size_alloc] at hb hg
    exact ⟨by omega, by omega⟩
  have HX1 : Hid (Blk w1 w.heap.size [.int .i64 r, .int .i64 n]) := blk_below (blk_new w _ _) B1
  obtain ⟨x0, x1, xf⟩ := blk2 HX1.out
  have l1 := HX1.out.1
  clear A1 hb hg B1
  unfold tp
  go_wp2_with fail
  refine (HRB.out _).mono ?_
  rintro e w2 ⟨rfl, hb2⟩
  have HX2 := Lib.hid (blk_below HX1.out hb2)
  have HA2 := Lib.hid (are_below HA1.out hb2)
  have HB2 := Lib.hid (b_call HB1.out hb2)
  clear hb2 x0 x1 xf l1
  obtain ⟨x0, x1, xf⟩ := blk2 HX2.out
  have l1 := HX2.out.1
  go_wp2_with fail
  refine (HO.out _).mono ?_
  rintro e w3 ⟨rfl, hb3⟩
  have HX3 := Lib.hid (blk_below HX2.out hb3)
  have HM3 := Lib.hid (HM.out _ b g cap (are_below HA2.out hb3))
  have HB3 := Lib.hid (b_call HB2.out hb3)
  unfold tp at HM3
  clear hb3 x0 x1 xf l1
  go_wp2_with fail
  refine HM3.out.mono ?_
  rintro e w4 ⟨rfl, A4, G4⟩
  have HA4 := Lib.hid A4
  have HX4 : Hid (Blk w4 w.heap.size [.int .i64 r, .int .i64 n]) := blk_grown HX3.out G4 (by intro e; injection e with e; have := HLO.out; omega)
  have HB4 : Hid (Below w.heap.size w w4) := b_grown HB3.out G4 (by have := HLO.out; omega)
  clear A4 G4 HM HM3 HX1 HX2 HX3 HA1 HA2 HB1 HB2 HB3
  go_wp2_with fail
  have M5 : FlM w ((w4.alloc (.cells #[.int .i64 0, .int .i64 0, .int .i64 0, .int .i64 0, .int .i64 0, .int .i64 0, .int .i64 0, .int .i64 0, .int .i64 0, .int .i64 0, .int .i64 0, .int .i64 0, .int .i64 0, .int .i64 0, .int .i64 0, .int .i64 0] 75)).alloc (.cells #[.int .u64 0, .int .u64 0, .int .u64 0, .int .u64 0, .int .u64 0, .int .u64 0, .int .u64 0, .int .u64 0, .int .u64 0, .int .u64 0, .int .u64 0, .int .u64 0, .int .u64 0, .int .u64 0, .int .u64 0, .int .u64 0] 76)) b g cap w4.heap.size (w4.heap.size + 1) w.heap.size r n L (List.replicate 16 0) (List.replicate 16 0) := by
    have q1 := HA4.out.hd.1
    have q2 := HA4.out.rw.1
    have q3 := HX4.out.1
    have q4 := HLO.out
    have q5 := HB4.out.size
    have bb := b_alloc (b_alloc (Below.refl w4.heap.size w4) (.cells #[.int .i64 0, .int .i64 0, .int .i64 0, .int .i64 0, .int .i64 0, .int .i64 0, .int .i64 0, .int .i64 0, .int .i64 0, .int .i64 0, .int .i64 0, .int .i64 0, .int .i64 0, .int .i64 0, .int .i64 0, .int .i64 0] 75)) (.cells #[.int .u64 0, .int .u64 0, .int .u64 0, .int .u64 0, .int .u64 0, .int .u64 0, .int .u64 0, .int .u64 0, .int .u64 0, .int .u64 0, .int .u64 0, .int .u64 0, .int .u64 0, .int .u64 0, .int .u64 0, .int .u64 0] 76)
    refine ⟨are_below HA4.out bb, blk_below (blk_new w4 _ _) (b_alloc (Below.refl _ _) _), ?_, blk_below HX4.out bb, ⟨by omega, by omega, by omega, by omega, by omega, by omega, by omega, by omega, by omega⟩, ⟨by omega, by omega, by omega, by omega, Nat.le_refl _⟩, b_call HB4.out bb⟩
    exact blk_at _ #[.int .u64 0, .int .u64 0, .int .u64 0, .int .u64 0, .int .u64 0, .int .u64 0, .int .u64 0, .int .u64 0, .int .u64 0, .int .u64 0, .int .u64 0, .int .u64 0, .int .u64 0, .int .u64 0, .int .u64 0, .int .u64 0] _ (w4.heap.size + 1) (by simp)
  clear HA4 HX4 HB4 HLO
  generalize (w4.alloc _).alloc _ = w5 at *
  generalize hub : w4.heap.size + 1 = ub at *
  generalize hrb : w4.heap.size = rb at *
  clear hub hrb
  have HM5 := Lib.hid M5
  clear M5
  go_loopw [40] (fun iv wr => ∃ k : Nat, k ≤ 16 ∧ iv = .int .i64 k ∧ Hid (∃ R : List Int, R.length = 16 ∧ (∀ j, j < k → R.getD j 0 = -1) ∧ FlM w wr b g cap rb ub w.heap.size r n L R (List.replicate 16 0))) (fun iv _ => (16 - intOf iv).toNat)
  case atStart => exact ⟨0, by decide, rfl, ⟨List.replicate 16 0, List.length_replicate .., (fun j hj => absurd hj (Nat.not_lt_zero _)), HM5.out⟩⟩
  case round =>
    obtain ⟨k, hk, rfl, HH⟩ := hrel
    obtain ⟨R, hRl, hRk, M⟩ := HH.out
    by_cases hlt : k < 16
    · have k0 : (0 : Int) ≤ k := by omega
      have k1 : (k : Int) < 16 := by omega
      have d0 := blk_get M.rr (k := k) (by omega)
      have df := M.rr.2.2
      have dl := M.rr.1
      have HMM := Lib.hid M
      have HRL := Lib.hid hRl
      have HRK := Lib.hid hRk
      generalize R.getD k 0 = y at *
      clear M HH hRl hRk hlt
      go_wp2_with fail
      refine ⟨⟨k + 1, by omega, by go_num, ⟨R.set k (-1), by rw [List.length_set]; exact HRL.out, fun j hj => ?_, fl_setr HMM.out (by rw [HRL.out]; omega) _⟩⟩, by simp only [intOf]; omega⟩
      by_cases hkj : k = j
      · subst hkj; exact getD_set_same (by rw [HRL.out]; omega) _
      · rw [getD_set_ne hkj]; exact HRK.out j (by omega)
    · have e16 : k = 16 := by omega
      have k16 : (16 : Int) ≤ k := by omega
      have hR : R = List.replicate 16 (-1) := List.ext_getElem (by rw [hRl, List.length_replicate]) (fun i h1 h2 => by
        have q := hRk i (by rw [e16]; omega)
        rw [List.getD_eq_getElem?_getD, List.getElem?_eq_getElem h1] at q
        rw [List.getElem_replicate]; exact q)
      rw [hR] at M
      have HM6 := Lib.hid M
      clear M HH hRl hRk hR hlt hk e16
      go_wp2_with fail
      generalize (m == 0) = bz at *
      have hbz : bz = false := by assumption
      subst hbz
      generalize (k : Int) = kz at *
      clear hbp k16
      -- LOOP2
      go_loopw [48] (fun iv wx => ∃ k : Nat, k ≤ ops.length ∧ iv = .int .i64 k ∧ Hid (∃ L R U : List Int, FdS L r n R U ∧ FlM w wx b g cap rb ub w.heap.size r n L R U)) (fun iv _ => ops.length - (intOf iv).toNat)
      case atStart => exact ⟨0, Nat.zero_le _, rfl, ⟨L, _, _, HF.out, HM6.out⟩⟩
      case round =>
        clear HM6 HM5 HF HNEW
        generalize L = L9 at *
        obtain ⟨k, hk, rfl, HH⟩ := hrel
        obtain ⟨L, R, U, F, M⟩ := HH.out
        have k0 : (0 : Int) ≤ k := by omega
        by_cases hlt : k < ops.length
        · obtain ⟨bl, off, rfl, hbl, h4⟩ := H4.out (by omega)
          have k1 : (k : Int) < ops.length := by omega
          obtain ⟨d0, d1, d2, d3, d4, d5, d6⟩ := op17_cells h4 k hlt
          rw [← (bcell M.bw).1 _ _ hbl] at d0 d1 d2 d3 d4 d5 d6
          obtain ⟨hv, _, _⟩ := HG.out _ (List.getElem_mem hlt)
          generalize ops[k] = o at *
          obtain ⟨ok, oa, of, ot, ov, or, on⟩ := o
          simp only at d0 d1 d2 d3 d4 d5 d6 hv
          by_cases hk30 : k < 30
          · as_aux_lemma =>
            have k2 : (k : Int) < 30 := by omega
            obtain ⟨kk, hkk, hkk16⟩ : ∃ kk : Nat, of % 16 = kk ∧ kk < 16 := ⟨(of % 16).toNat, by omega, by omega⟩
            obtain ⟨tt, htt, htt1⟩ : ∃ tt : Int, ot % 1024 = tt ∧ 0 ≤ tt ∧ tt ≤ 1023 := ⟨ot % 1024, rfl, by omega, by omega⟩
            have a15 : bits .and .i64 of 15 = kk := by rw [o_and15, hkk]
            have a1023 : bits .and .i64 ot 1023 = tt := by rw [o_and1023, htt]
            have kk0 : (0 : Int) ≤ kk := by omega
            have kk1 : (kk : Int) < 16 := by omega
            have HMX := Lib.hid (fl_below M (b_alloc (Below.refl wr.heap.size wr) (.cells #[.int .i64 ok, .int .i64 oa, .int .i64 kk, .int .i64 ot, .int .u64 ov, .int .i64 or, .int .i64 on] 78)))
            have HBX : Hid (Blk (wr.alloc (.cells #[.int .i64 ok, .int .i64 oa, .int .i64 kk, .int .i64 ot, .int .u64 ov, .int .i64 or, .int .i64 on] 78)) wr.heap.size [.int .i64 ok, .int .i64 oa, .int .i64 kk, .int .i64 ot, .int .u64 ov, .int .i64 or, .int .i64 on]) := blk_new wr _ _
            have HNE : Hid (wr.heap.size ≠ g) := by show _ ≠ _; have := M.a.rw.1; omega
            have ne1 : rb ≠ wr.heap.size := by have := M.rr.1; omega
            have ne2 : ub ≠ wr.heap.size := by have := M.uu.1; omega
            have HFF := Lib.hid F
            have HLT := Lib.hid hlt
            clear M F HH hlt h4 hkk htt hk30
            by_cases hev : ok.tmod 2 = 0
            · by_cases hr : kk < r
              · obtain ⟨e1, F2⟩ := fds_setref HFF.out hr htt1
                have HS := Lib.hid (osetref_any HMX.out.a 8 kk tt)
                rw [e1] at HS
                have HF2 := Lib.hid F2
                have HKL : Hid (kk < R.length) := by show _ < _; rw [HFF.out.rl]; exact hkk16
                generalize srL L 8 kk tt = L2 at *
                unfold tp at HS
                clear e1 F2
                go_wp2_with fail
                refine HS.out.mono ?_
                rintro e w6 ⟨rfl, A6, G6⟩
                have HM6 := Lib.hid (fl_are HMX.out G6 A6)
                have HB6 := Lib.hid (blk_grown HBX.out G6 (by intro e; injection e with e; exact HNE.out e))
                obtain ⟨z0, z1, z2, z3, z4, z5, z6, zf⟩ := o_blk7 HB6.out
                have zl := HB6.out.1
                have d8 := blk_get HM6.out.rr HKL.out
                have df := HM6.out.rr.2.2
                have dl := HM6.out.rr.1
                clear A6 G6
                generalize (R).getD kk 0 = y8 at *
                go_wp2_with fail
                exact ⟨⟨k + 1, HLT.out, by go_num, ⟨L2, R.set kk tt, U, HF2.out, fl_setr HM6.out HKL.out _⟩⟩, by simp only [intOf]; have := HLT.out; omega⟩
              · have e0 : fldE L 8 kk false = 3 := by rw [fds_fldE HFF.out]; exact if_neg (by simp; omega)
                have e1 : srE L 8 kk tt = 3 := by unfold srE; rw [if_neg (by omega)]; exact e0
                have e2 : srL L 8 kk tt = L := by unfold srL; rw [if_neg (by omega)]
                have HS := Lib.hid (osetref_any HMX.out.a 8 kk tt)
                rw [e1, e2] at HS
                unfold tp at HS
                clear e0 e1 e2
                go_wp2_with fail
                refine HS.out.mono ?_
                rintro e w6 ⟨rfl, A6, G6⟩
                have HM6 := Lib.hid (fl_are HMX.out G6 A6)
                have HB6 := Lib.hid (blk_grown HBX.out G6 (by intro e; injection e with e; exact HNE.out e))
                obtain ⟨z0, z1, z2, z3, z4, z5, z6, zf⟩ := o_blk7 HB6.out
                have zl := HB6.out.1
                clear A6 G6
                go_wp2_with fail
                exact ⟨⟨k + 1, HLT.out, by go_num, ⟨L, R, U, HFF.out, HM6.out⟩⟩, by simp only [intOf]; have := HLT.out; omega⟩
            · have hod : (ok.tmod 2 == 0) = false := by rw [beq_eq_false_iff_ne]; exact hev
              by_cases hr : kk < n
              · obtain ⟨e1, F2⟩ := fds_setnum HFF.out hr hv
                have HS := Lib.hid (osetnum_any HMX.out.a 8 kk ov hv)
                rw [e1] at HS
                have HF2 := Lib.hid F2
                have HKL : Hid (kk < U.length) := by show _ < _; rw [HFF.out.ul]; exact hkk16
                generalize snL L 8 kk ov = L2 at *
                unfold tp at HS
                clear e1 F2
                go_wp2_with fail
                refine HS.out.mono ?_
                rintro e w6 ⟨rfl, A6, G6⟩
                have HM6 := Lib.hid (fl_are HMX.out G6 A6)
                have HB6 := Lib.hid (blk_grown HBX.out G6 (by intro e; injection e with e; exact HNE.out e))
                obtain ⟨z0, z1, z2, z3, z4, z5, z6, zf⟩ := o_blk7 HB6.out
                have zl := HB6.out.1
                have d8 := blk_get HM6.out.uu HKL.out
                have df := HM6.out.uu.2.2
                have dl := HM6.out.uu.1
                clear A6 G6
                generalize (U).getD kk 0 = y8 at *
                go_wp2_with fail
                exact ⟨⟨k + 1, HLT.out, by go_num, ⟨L2, R, U.set kk ov, HF2.out, fl_setu HM6.out HKL.out _⟩⟩, by simp only [intOf]; have := HLT.out; omega⟩
              · have e0 : fldE L 8 kk true = 3 := by rw [fds_fldE HFF.out]; exact if_neg (by simp; omega)
                have e2 : snL L 8 kk ov = L := by unfold snL; rw [if_neg (by omega)]
                have HS := Lib.hid (osetnum_any HMX.out.a 8 kk ov hv)
                rw [e0, e2] at HS
                unfold tp at HS
                clear e0 e2
                go_wp2_with fail
                refine HS.out.mono ?_
                rintro e w6 ⟨rfl, A6, G6⟩
                have HM6 := Lib.hid (fl_are HMX.out G6 A6)
                have HB6 := Lib.hid (blk_grown HBX.out G6 (by intro e; injection e with e; exact HNE.out e))
                obtain ⟨z0, z1, z2, z3, z4, z5, z6, zf⟩ := o_blk7 HB6.out
                have zl := HB6.out.1
                clear A6 G6
                go_wp2_with fail
                exact ⟨⟨k + 1, HLT.out, by go_num, ⟨L, R, U, HFF.out, HM6.out⟩⟩, by simp only [intOf]; have := HLT.out; omega⟩
          · have k2 : (30 : Int) ≤ k := by omega
            have M2 := fl_below M (b_alloc (Below.refl wr.heap.size wr) (.cells #[.int .i64 ok, .int .i64 oa, .int .i64 of, .int .i64 ot, .int .u64 ov, .int .i64 or, .int .i64 on] 78))
            clear M
            rename FlM _ _ _ _ _ _ _ _ _ _ _ _ _ => M
            have HMW := Lib.hid M
            have HFW := Lib.hid F
            clear M F HH
            obtain ⟨z0, z1, zf⟩ := blk2 HMW.out.xx
            have zl := HMW.out.xx.1
            go_wp2_with fail
            go_loopw [11] (fun iv wx => ∃ k : Nat, k ≤ r ∧ iv = .int .i64 k ∧ Hid (FlM w wx b g cap rb ub w.heap.size r n L R U)) (fun iv _ => (r : Int).toNat - (intOf iv).toNat)
            case atStart => exact ⟨0, Nat.zero_le _, rfl, HMW.out⟩
            case round =>
              clear HMW z0 z1 zf zl
              obtain ⟨k, hk, rfl, HMW⟩ := hrel
              have k0 : (0 : Int) ≤ k := by omega
              obtain ⟨z0, z1, zf⟩ := blk2 HMW.out.xx
              have zl := HMW.out.xx.1
              by_cases hkr : k < r
              · have k1 : (k : Int) < r := by omega
                have k16 : (k : Int) < 16 := by omega
                obtain ⟨e1, e2⟩ := fds_ref HFW.out hkr
                have HX := Lib.hid (oref_any HMW.out.a 8 k)
                rw [e1, e2] at HX
                have HRL : Hid (k < R.length) := by show _ < _; rw [HFW.out.rl]; omega
                have HD := Lib.hid (fun (w1 : World) (M1 : FlM w w1 b g cap rb ub w.heap.size r n L R U) => blk_get M1.rr HRL.out)
                have HKR := Lib.hid hkr
                generalize R.getD k 0 = y at *
                unfold tp at HX
                clear e1 e2 hkr
                go_wp2_with fail
                refine HX.out.mono ?_
                rintro e w8 ⟨rfl, hb8⟩
                have HM8 := Lib.hid (fl_below HMW.out hb8)
                have d8 := HD.out w8 HM8.out
                clear hb8 z0 z1 zf zl
                go_wp2_with fail
                exact ⟨⟨k + 1, HKR.out, by go_num, HM8.out⟩, by simp only [intOf]; have := HKR.out; omega⟩
              · have e1 : k = r := by omega
                subst e1
                clear hkr hk
                go_wp2_with fail
                go_loopw [14] (fun iv wx => ∃ j : Nat, j ≤ n ∧ iv = .int .i64 j ∧ Hid (FlM w wx b g cap rb ub w.heap.size k n L R U)) (fun iv _ => (n : Int).toNat - (intOf iv).toNat)
                case atStart => exact ⟨0, Nat.zero_le _, rfl, HMW.out⟩
                case round =>
                  clear HMW z0 z1 zf zl
                  obtain ⟨j, hj, rfl, HMW⟩ := hrel
                  have j0 : (0 : Int) ≤ j := by omega
                  obtain ⟨z0, z1, zf⟩ := blk2 HMW.out.xx
                  have zl := HMW.out.xx.1
                  by_cases hjn : j < n
                  · have j1 : (j : Int) < n := by omega
                    have j16 : (j : Int) < 16 := by omega
                    obtain ⟨e1, e2⟩ := fds_num HFW.out hjn
                    have HX := Lib.hid (onum_any HMW.out.a 8 j)
                    rw [e1, e2] at HX
                    have HUL : Hid (j < U.length) := by show _ < _; rw [HFW.out.ul]; omega
                    have HD := Lib.hid (fun (w1 : World) (M1 : FlM w w1 b g cap rb ub w.heap.size k n L R U) => blk_get M1.uu HUL.out)
                    have HJN := Lib.hid hjn
                    generalize U.getD j 0 = y at *
                    unfold tp at HX
                    clear e1 e2 hjn
                    go_wp2_with fail
                    refine HX.out.mono ?_
                    rintro e w8 ⟨rfl, hb8⟩
                    have HM8 := Lib.hid (fl_below HMW.out hb8)
                    have d8 := HD.out w8 HM8.out
                    clear hb8 z0 z1 zf zl
                    go_wp2_with fail
                    exact ⟨⟨j + 1, HJN.out, by go_num, HM8.out⟩, by simp only [intOf]; have := HJN.out; omega⟩
                  · have e2 : j = n := by omega
                    subst e2
                    clear hjn hj
                    have f1 : fldE L 8 k false = 3 := by rw [fds_fldE HFW.out]; exact if_neg (by simp)
                    have f2 : fldE L 8 j true = 3 := by rw [fds_fldE HFW.out]; exact if_neg (by simp)
                    have HX1 := Lib.hid (fun (w1 : World) (h1 : AreAt w1 b g cap L) => oref_any h1 8 k)
                    have HX2 := Lib.hid (fun (w1 : World) (h1 : AreAt w1 b g cap L) => onum_any h1 8 j)
                    rw [f1] at HX1
                    rw [f2] at HX2
                    generalize refV L 8 k = y1 at *
                    generalize numV L 8 j = y2 at *
                    have HN1 := Lib.hid (fun w => ohead_nil 8 w)
                    have HN2 := Lib.hid (fun w => omake_nil 8 k j w)
                    unfold shp at HN1 HN2
                    unfold tp at HX1 HX2
                    clear f1 f2
                    go_wp2_with fail
                    refine (HX1.out _ HMW.out.a).mono ?_
                    rintro e w6 ⟨rfl, hb6⟩
                    have HM6 := Lib.hid (fl_below HMW.out hb6)
                    clear hb6 z0 z1 zf zl
                    obtain ⟨z0, z1, zf⟩ := blk2 HM6.out.xx
                    have zl := HM6.out.xx.1
                    go_wp2_with fail
                    refine (HX2.out _ HM6.out.a).mono ?_
                    rintro e w7 ⟨rfl, hb7⟩
                    have HM7 := Lib.hid (fl_below HM6.out hb7)
                    clear hb7 z0 z1 zf zl
                    go_wp2_with fail
                    refine (HN1.out _).mono ?_
                    rintro e w8 ⟨rfl, hb8⟩
                    have HM8 := Lib.hid (fl_below HM7.out (b_call hb8 (b_alloc (Below.refl _ w8) (.cells #[.int .i64 0, .int .i64 0] 25))))
                    clear hb8
                    obtain ⟨z0, z1, zf⟩ := blk2 HM8.out.xx
                    have zl := HM8.out.xx.1
                    go_wp2_with fail
                    refine (HO.out _).mono ?_
                    rintro e w9 ⟨rfl, hb9⟩
                    have HM9 := Lib.hid (fl_below HM8.out hb9)
                    clear hb9 z0 z1 zf zl
                    go_wp2_with fail
                    refine (HN2.out _).mono ?_
                    rintro e w10 ⟨rfl, hb10⟩
                    have HM10 := Lib.hid (fl_below HM9.out hb10)
                    clear hb10
                    go_wp2_with fail
                    refine (awake17_any _).mono ?_
                    rintro e w11 ⟨rfl, hb11⟩
                    have HB11 := Lib.hid (b_call HM10.out.bw hb11)
                    clear hb11
                    go_wp2_with fail
                    go_ret
                    exact ⟨rfl, HB11.out⟩
        · have HMW := Lib.hid M
          have HFW := Lib.hid F
          clear M F HH
          obtain ⟨z0, z1, zf⟩ := blk2 HMW.out.xx
          have zl := HMW.out.xx.1
          go_wp2_with fail
          go_loopw [11] (fun iv wx => ∃ k : Nat, k ≤ r ∧ iv = .int .i64 k ∧ Hid (FlM w wx b g cap rb ub w.heap.size r n L R U)) (fun iv _ => (r : Int).toNat - (intOf iv).toNat)
          case atStart => exact ⟨0, Nat.zero_le _, rfl, HMW.out⟩
          case round =>
            clear HMW z0 z1 zf zl
            obtain ⟨k, hk, rfl, HMW⟩ := hrel
            have k0 : (0 : Int) ≤ k := by omega
            obtain ⟨z0, z1, zf⟩ := blk2 HMW.out.xx
            have zl := HMW.out.xx.1
            by_cases hkr : k < r
            · have k1 : (k : Int) < r := by omega
              have k16 : (k : Int) < 16 := by omega
              obtain ⟨e1, e2⟩ := fds_ref HFW.out hkr
              have HX := Lib.hid (oref_any HMW.out.a 8 k)
              rw [e1, e2] at HX
              have HRL : Hid (k < R.length) := by show _ < _; rw [HFW.out.rl]; omega
              have HD := Lib.hid (fun (w1 : World) (M1 : FlM w w1 b g cap rb ub w.heap.size r n L R U) => blk_get M1.rr HRL.out)
              have HKR := Lib.hid hkr
              generalize R.getD k 0 = y at *
              unfold tp at HX
              clear e1 e2 hkr
              go_wp2_with fail
              refine HX.out.mono ?_
              rintro e w8 ⟨rfl, hb8⟩
              have HM8 := Lib.hid (fl_below HMW.out hb8)
              have d8 := HD.out w8 HM8.out
              clear hb8 z0 z1 zf zl
              go_wp2_with fail
              exact ⟨⟨k + 1, HKR.out, by go_num, HM8.out⟩, by simp only [intOf]; have := HKR.out; omega⟩
            · have e1 : k = r := by omega
              subst e1
              clear hkr hk
              go_wp2_with fail
              go_loopw [14] (fun iv wx => ∃ j : Nat, j ≤ n ∧ iv = .int .i64 j ∧ Hid (FlM w wx b g cap rb ub w.heap.size k n L R U)) (fun iv _ => (n : Int).toNat - (intOf iv).toNat)
              case atStart => exact ⟨0, Nat.zero_le _, rfl, HMW.out⟩
              case round =>
                clear HMW z0 z1 zf zl
                obtain ⟨j, hj, rfl, HMW⟩ := hrel
                have j0 : (0 : Int) ≤ j := by omega
                obtain ⟨z0, z1, zf⟩ := blk2 HMW.out.xx
                have zl := HMW.out.xx.1
                by_cases hjn : j < n
                · have j1 : (j : Int) < n := by omega
                  have j16 : (j : Int) < 16 := by omega
                  obtain ⟨e1, e2⟩ := fds_num HFW.out hjn
                  have HX := Lib.hid (onum_any HMW.out.a 8 j)
                  rw [e1, e2] at HX
                  have HUL : Hid (j < U.length) := by show _ < _; rw [HFW.out.ul]; omega
                  have HD := Lib.hid (fun (w1 : World) (M1 : FlM w w1 b g cap rb ub w.heap.size k n L R U) => blk_get M1.uu HUL.out)
                  have HJN := Lib.hid hjn
                  generalize U.getD j 0 = y at *
                  unfold tp at HX
                  clear e1 e2 hjn
                  go_wp2_with fail
                  refine HX.out.mono ?_
                  rintro e w8 ⟨rfl, hb8⟩
                  have HM8 := Lib.hid (fl_below HMW.out hb8)
                  have d8 := HD.out w8 HM8.out
                  clear hb8 z0 z1 zf zl
                  go_wp2_with fail
                  exact ⟨⟨j + 1, HJN.out, by go_num, HM8.out⟩, by simp only [intOf]; have := HJN.out; omega⟩
                · have e2 : j = n := by omega
                  subst e2
                  clear hjn hj
                  have f1 : fldE L 8 k false = 3 := by rw [fds_fldE HFW.out]; exact if_neg (by simp)
                  have f2 : fldE L 8 j true = 3 := by rw [fds_fldE HFW.out]; exact if_neg (by simp)
                  have HX1 := Lib.hid (fun (w1 : World) (h1 : AreAt w1 b g cap L) => oref_any h1 8 k)
                  have HX2 := Lib.hid (fun (w1 : World) (h1 : AreAt w1 b g cap L) => onum_any h1 8 j)
                  rw [f1] at HX1
                  rw [f2] at HX2
                  generalize refV L 8 k = y1 at *
                  generalize numV L 8 j = y2 at *
                  have HN1 := Lib.hid (fun w => ohead_nil 8 w)
                  have HN2 := Lib.hid (fun w => omake_nil 8 k j w)
                  unfold shp at HN1 HN2
                  unfold tp at HX1 HX2
                  clear f1 f2
                  go_wp2_with fail
                  refine (HX1.out _ HMW.out.a).mono ?_
                  rintro e w6 ⟨rfl, hb6⟩
                  have HM6 := Lib.hid (fl_below HMW.out hb6)
                  clear hb6 z0 z1 zf zl
                  obtain ⟨z0, z1, zf⟩ := blk2 HM6.out.xx
                  have zl := HM6.out.xx.1
                  go_wp2_with fail
                  refine (HX2.out _ HM6.out.a).mono ?_
                  rintro e w7 ⟨rfl, hb7⟩
                  have HM7 := Lib.hid (fl_below HM6.out hb7)
                  clear hb7 z0 z1 zf zl
                  go_wp2_with fail
                  refine (HN1.out _).mono ?_
                  rintro e w8 ⟨rfl, hb8⟩
                  have HM8 := Lib.hid (fl_below HM7.out (b_call hb8 (b_alloc (Below.refl _ w8) (.cells #[.int .i64 0, .int .i64 0] 25))))
                  clear hb8
                  obtain ⟨z0, z1, zf⟩ := blk2 HM8.out.xx
                  have zl := HM8.out.xx.1
                  go_wp2_with fail
                  refine (HO.out _).mono ?_
                  rintro e w9 ⟨rfl, hb9⟩
                  have HM9 := Lib.hid (fl_below HM8.out hb9)
                  clear hb9 z0 z1 zf zl
                  go_wp2_with fail
                  refine (HN2.out _).mono ?_
                  rintro e w10 ⟨rfl, hb10⟩
                  have HM10 := Lib.hid (fl_below HM9.out hb10)
                  clear hb10
                  go_wp2_with fail
                  refine (awake17_any _).mono ?_
                  rintro e w11 ⟨rfl, hb11⟩
                  have HB11 := Lib.hid (b_call HM10.out.bw hb11)
                  clear hb11
                  go_wp2_with fail
                  go_ret
                  exact ⟨rfl, HB11.out⟩
end Go.Proofs.Ytgbbnmjfkhconaa
