/- ArenaPlays, walked: whatever calls, the answer is true. Conditions: the calls read as a list; their bytes as bytes, their acts as acts. -/
import Derived.Test.YtgbbnmjfkhconaaAreR
import Derived.Test.YtgbbnmjfkhconaaAreO
import Derived.Deep.CutBlock
namespace Go.Proofs.Ytgbbnmjfkhconaa
open Go.RowKit
set_option linter.unusedVariables false
set_option linter.unusedSimpArgs false
attribute [local go_sem] over_cell over_frozen
/-- An arena and the document's row, alike. -/
structure PlS (w wr : World) (b g cap gr cr : Nat) (L : List Int) : Prop where
  a : AreAt wr b g cap L
  r : RowAt wr gr cr L
  ng : g ≠ gr
  nb : b ≠ gr
  lb : w.heap.size ≤ b
  lg : w.heap.size ≤ g
  lr : w.heap.size ≤ gr
  bw : Below w.heap.size w wr
def PlSt (w wr : World) (b : Nat) (rv : Value) : Prop := ∃ g cap gr cr L, rv = rowV gr L cr ∧ PlS w wr b g cap gr cr L
theorem pl_below {w wr w' : World} {b g cap gr cr : Nat} {L : List Int} (h : PlS w wr b g cap gr cr L) (hb : Below wr.heap.size wr w') : PlS w w' b g cap gr cr L :=
  ⟨are_below h.a hb, row_below h.r hb, h.ng, h.nb, h.lb, h.lg, h.lr, b_call h.bw hb⟩
/-- The arena alone has turned; the document's row is a new one. -/
theorem pl_new {w wr w1 w2 : World} {b g cap gr cr g2 c2 : Nat} {L M : List Int} (h : PlS w wr b g cap gr cr L) (hg : wr.grownBy w1 (some g)) (A : AreAt w1 b g cap M) (hb : Below w1.heap.size w1 w2) (R : RowAt w2 g2 c2 M) (h2 : w1.heap.size ≤ g2) : PlS w w2 b g cap g2 c2 M := by
  have h3 := hg.size
  have h4 := A.rw.1
  have h5 := A.hd.1
  have h6 := h.bw.size
  exact ⟨are_below A hb, R, by omega, by omega, h.lb, h.lg, by omega, b_call (b_grown h.bw hg h.lg) hb⟩
theorem pl_same {w wr w1 : World} {b g cap gr cr : Nat} {L : List Int} (h : PlS w wr b g cap gr cr L) (hg : wr.grownBy w1 (some g)) (A : AreAt w1 b g cap L) : PlS w w1 b g cap gr cr L :=
  ⟨A, row_grown h.r hg (by intro e; injection e with e; exact h.ng e.symm), h.ng, h.nb, h.lb, h.lg, h.lr, b_grown h.bw hg h.lg⟩
theorem pl_box {w wr : World} {b g cap gr cr xb : Nat} {L : List Int} (h : PlS w wr b g cap gr cr L) (h1 : xb ≠ b) (h2 : xb ≠ g) (h3 : xb ≠ gr) (h4 : w.heap.size ≤ xb) (o : Nat) (u : Value) : PlS w (wr.setCell ⟨xb, o, none⟩ u) b g cap gr cr L := by
  have G : wr.grownBy (wr.setCell ⟨xb, o, none⟩ u) (some xb) := gb_set (gb_refl _ _) _ _ _
  exact ⟨are_grown h.a G (by intro e; injection e with e; exact h1 e.symm) (by intro e; injection e with e; exact h2 e.symm), row_grown h.r G (by intro e; injection e with e; exact h3 e.symm), h.ng, h.nb, h.lb, h.lg, h.lr, b_grown h.bw G h4⟩
theorem op_cells3 {w : World} {b o : Nat} {A : List OpA} (h4 : ∀ k, (h : k < A.length) → ∀ j, j < opA.size → w.cell? ⟨b, o + (k * opA.size + j), none⟩ = (opA.cells A[k])[j]?) (k : Nat) (hk : k < A.length) :
    w.cell? ⟨b, o + k * 7, none⟩ = some (.int .i64 A[k].k) ∧ w.cell? ⟨b, o + k * 7 + 1, none⟩ = some (.int .i64 A[k].a) ∧ w.cell? ⟨b, o + k * 7 + 2, none⟩ = some (.int .i64 A[k].n) ∧ w.cell? ⟨b, o + k * 7 + 3, none⟩ = some (.int .u8 A[k].c) ∧ w.cell? ⟨b, o + k * 7 + 4, none⟩ = some (.int .u64 A[k].x) ∧ w.cell? ⟨b, o + k * 7 + 5, none⟩ = some A[k].b.v ∧ w.cell? ⟨b, o + k * 7 + 6, none⟩ = some A[k].t.v := by
  have h4' : ∀ (j : Nat), j < 7 → w.cell? ⟨b, o + k * 7 + j, none⟩ = (opA.cells A[k])[j]? := fun j hj => by
    have := h4 k hk j hj
    rw [Nat.add_assoc]; exact this
  exact ⟨h4' 0 (by omega), h4' 1 (by omega), h4' 2 (by omega), h4' 3 (by omega), h4' 4 (by omega), h4' 5 (by omega), h4' 6 (by omega)⟩
theorem blk7 {w : World} {g : Nat} {u0 u1 u2 u3 u4 u5 u6 : Value} (h : Blk w g [u0, u1, u2, u3, u4, u5, u6]) : w.cell? ⟨g, 0, none⟩ = some u0 ∧ w.cell? ⟨g, 1, none⟩ = some u1 ∧ w.cell? ⟨g, 2, none⟩ = some u2 ∧ w.cell? ⟨g, 3, none⟩ = some u3 ∧ w.cell? ⟨g, 4, none⟩ = some u4 ∧ w.cell? ⟨g, 5, none⟩ = some u5 ∧ w.cell? ⟨g, 6, none⟩ = some u6 ∧ ∀ i, w.frozen? ⟨g, i, none⟩ = false :=
  ⟨h.2.1 0 (by simp), h.2.1 1 (by simp), h.2.1 2 (by simp), h.2.1 3 (by simp), h.2.1 4 (by simp), h.2.1 5 (by simp), h.2.1 6 (by simp), h.2.2⟩
set_option maxRecDepth 100000 in
set_option maxHeartbeats 16000000 in
theorem arenaPlays_any (n0 : Int) (u : Value) (ops : List OpA) (w : World) (h : ReadR opA w u ops) (hg : ∀ o ∈ ops, GoodO w o) :
    Calls Try.prog 5 #[.int .i64 n0, u] w fun e w' => e = .returned (.bool true) ∧ Below w.heap.size w w' := by
  obtain ⟨N, hN⟩ : ∃ N, N = n0.tmod 4 := ⟨_, rfl⟩
  have HNEW := Lib.hid (anew_any N)
  have HRN := Lib.hid (r3new_any N)
  obtain ⟨ua, uc, rfl, c1, c2, c3, c4⟩ := h
  have hcm := cap_le c2
  have H4 := Lib.hid c4
  have HG := Lib.hid hg
  have hlm : (ops.length : Int) ≤ 9223372036854775807 := by omega
  have HNN := Lib.hid hN
  have hN2 : n0.tmod 4 = N := hN.symm
  clear c4 hg c3 hN
  go_enter Try.func5, Try.ntmps5
  go_wp2_with fail
  refine (HNEW.out _).mono ?_
  rintro e w1 ⟨b, g, cap, rfl, A1, hb, hg, B1⟩
  have HA1 := Lib.hid A1
  have HB1 := Lib.hid B1
  have HP : Hid (w.heap.size ≤ b ∧ w.heap.size ≤ g) := ⟨hb, hg⟩
  clear A1 B1 hb hg
  unfold tp
  go_wp2_with fail
  refine (HRN.out _).mono ?_
  rintro e w2 ⟨gr, cr, rfl, R2, hgr, B2⟩
  have P0 : Hid (PlSt w w2 b (rowV gr (List.replicate (256 * pagesN N) 0) cr)) := by
    have h1 := HA1.out.rw.1
    have h2 := HA1.out.hd.1
    have h3 := HB1.out.size
    have h4 := HP.out
    exact ⟨g, cap, gr, cr, _, rfl, ⟨are_below HA1.out B2, R2, by omega, by omega, h4.1, h4.2, by omega, b_call HB1.out B2⟩⟩
  generalize rowV gr (List.replicate (256 * pagesN N) 0) cr = rv0 at *
  clear R2 hgr B2 HA1 HB1
  go_wp2_with fail
  go_loopw [6, 35] (fun rv iv wr => ∃ k : Nat, k ≤ ops.length ∧ iv = .int .i64 k ∧ Hid (PlSt w wr b rv)) (fun _ iv _ => ops.length - (intOf iv).toNat)
  case atStart => exact ⟨0, Nat.zero_le _, rfl, P0.out⟩
  case round =>
    obtain ⟨k, hk, rfl, hp⟩ := hrel
    have k0 : (0 : Int) ≤ k := by omega
    by_cases hlt : k < ops.length
    · obtain ⟨bl, off, rfl, hbl, h4⟩ := H4.out (by omega)
      have k1 : (k : Int) < ops.length := by omega
      obtain ⟨d0, d1, d2, d3, d4, d5, d6⟩ := op_cells3 h4 k hlt
      obtain ⟨g, cap, gr, cr, L, rfl, PS⟩ := hp.out
      rw [← (bcell PS.bw).1 _ _ hbl] at d0 d1 d2 d3 d4 d5 d6
      obtain ⟨gc, gx, ⟨M0, rM0, bM0⟩, A0, rA0, gA0⟩ := HG.out _ (List.getElem_mem hlt)
      generalize ops[k] = o at *
      obtain ⟨ok, oa, on, oc, ox, ⟨ba, bn, bc⟩, ⟨ta, tn, tc⟩⟩ := o
      simp only [Sl3.v] at d0 d1 d2 d3 d4 d5 d6 gc gx rM0 rA0
      obtain rfl : bn = M0.length := by obtain ⟨_, _, e, _⟩ := rM0; injection e
      obtain ⟨hbcap, hbmax⟩ : M0.length ≤ bc ∧ bc ≤ maxLen := by obtain ⟨_, _, e, h1, h2, _⟩ := rM0; cases e; exact ⟨h1, h2⟩
      have hbc := cap_le hbmax
      have hbl2 : (M0.length : Int) ≤ bc := by omega
      obtain rfl : tn = A0.length := by obtain ⟨_, _, e, _⟩ := rA0; injection e
      have GC := Lib.hid gc
      have GX := Lib.hid gx
      have RM := Lib.hid rM0
      have BM := Lib.hid bM0
      have RA := Lib.hid rA0
      have GA := Lib.hid gA0
      have HLT := Lib.hid hlt
      by_cases hk30 : k < 30
      · have k2 : (k : Int) < 30 := by omega
        obtain ⟨xb, hxb⟩ : ∃ xb, xb = wr.heap.size := ⟨_, rfl⟩
        have BX : Blk (wr.alloc (.cells #[.int .i64 ok, .int .i64 oa, .int .i64 on, .int .u8 oc, .int .u64 ox, .slice ba M0.length bc, .slice ta A0.length tc] 55)) xb [.int .i64 ok, .int .i64 oa, .int .i64 on, .int .u8 oc, .int .u64 ox, .slice ba M0.length bc, .slice ta A0.length tc] := by rw [hxb]; exact blk_new _ _ _
        have PX := pl_below PS (b_alloc (Below.refl wr.heap.size wr) (.cells #[.int .i64 ok, .int .i64 oa, .int .i64 on, .int .u8 oc, .int .u64 ox, .slice ba M0.length bc, .slice ta A0.length tc] 55))
        have HBX := Lib.hid BX
        have HPX := Lib.hid PX
        have HXN : Hid (xb ≠ b ∧ xb ≠ g ∧ xb ≠ gr ∧ w.heap.size ≤ xb) := by
          have q1 := PS.a.hd.1
          have q2 := PS.a.rw.1
          have q3 := PS.r.rw.1
          have q4 := PS.bw.size
          exact ⟨by omega, by omega, by omega, by omega⟩
        have HXB := Lib.hid hxb
        have HP0 := Lib.hid PS
        clear BX PX PS gc gx rM0 bM0 rA0 gA0 h4 hp hlt hk30
        unfold rowV
        go_upto_if 45 with fail
        rw [← HXB.out]
        go_cut [] from 46 to 49 (fun wx => ∃ (M : List Int) (ba' : Option Addr) (bc' : Nat), M.length ≤ 300 ∧ ReadB w (.slice ba' M.length bc') M ∧ IsBytes M ∧ Blk wx xb [.int .i64 ok, .int .i64 oa, .int .i64 on, .int .u8 oc, .int .u64 ox, .slice ba' M.length bc', .slice ta A0.length tc] ∧ PlS w wx b g cap gr cr L)
        case first =>
          -- B
          obtain ⟨z0, z1, z2, z3, z4, z5, z6, zf⟩ := blk7 HBX.out
          have zl := HBX.out.1
          rcases (show 300 < (M0.length : Int) ∨ (M0.length : Int) ≤ 300 by omega) with q | q
          · have q2 : (300 : Int) ≤ bc := by omega
            have HM : Hid (ReadB w (.slice ba 300 bc) (M0.take 300) ∧ (M0.take 300).length = 300) := ⟨readB_take RM.out (by omega), by rw [List.length_take]; omega⟩
            have HX2 := HXN.out
            have HB5 : Hid (Blk (wr.alloc (.cells #[.int .i64 ok, .int .i64 oa, .int .i64 on, .int .u8 oc, .int .u64 ox, .slice ba 300 bc, .slice ta A0.length tc] 55)) xb [.int .i64 ok, .int .i64 oa, .int .i64 on, .int .u8 oc, .int .u64 ox, .slice ba 300 bc, .slice ta A0.length tc]) := by show Blk _ _ _; rw [HXB.out]; exact blk_new _ _ _
            have HP5 := Lib.hid (pl_below HP0.out (b_alloc (Below.refl wr.heap.size wr) (.cells #[.int .i64 ok, .int .i64 oa, .int .i64 on, .int .u8 oc, .int .u64 ox, .slice ba 300 bc, .slice ta A0.length tc] 55)))
            clear HX2
            go_wp2_with fail
            go_meet
            case rel => exact ⟨M0.take 300, ba, bc, by rw [HM.out.2]; exact Nat.le_refl _, by rw [HM.out.2]; exact HM.out.1, isBytes_take BM.out 300, by rw [HM.out.2]; exact HB5.out, HP5.out⟩
          · go_wp2_with fail
            go_meet
            case rel => exact ⟨M0, ba, bc, by omega, RM.out, BM.out, HBX.out, HPX.out⟩
        case rest =>
        obtain ⟨M, mba, mbc, hM, rM, bM, BX, PS⟩ := hcut
        obtain ⟨wB, hwB⟩ : ∃ x, x = wc := ⟨_, rfl⟩
        subst hwB
        have HM := Lib.hid hM
        have HRM := Lib.hid rM
        have HBM := Lib.hid bM
        have HB := Lib.hid BX
        have HS := Lib.hid PS
        have hM1 : (M.length : Int) ≤ 300 := by omega
        obtain ⟨z0, z1, z2, z3, z4, z5, z6, zf⟩ := blk7 BX
        have HMB := Lib.hid (readB_below rM PS.bw)
        have HIN := Lib.hid (fun (a n : Int) => r3in_any _ L (row_read PS.r) PS.r.mx a n)
        have HWD := Lib.hid (fun (a : Int) => r3word_any PS.r a)
        have HTA := Lib.hid (readR_below RA.out PS.bw)
        unfold rowV at HIN HWD
        clear hM rM bM BX PS HBX HPX HXB RM BM hbl2 hbc hbcap hbmax d0 d1 d2 d3 d4 d5 d6 hxb hbl k1 H4 HG
        go_upto_block 2 with fail
        go_cut [6, 9, 10, 11, 12, 13, 14, 15, 16, 17, 18, 19, 20, 21, 22, 23, 24, 25, 26] from 52 to 239 (fun rv _ _ _ _ _ _ _ _ _ _ _ _ _ _ _ _ _ _ wx => PlSt w wx b rv)
        case first =>
          rcases (show ok = 0 ∨ ok = 1 ∨ ok = 2 ∨ ok = 3 ∨ ok = 4 ∨ ok = 5 ∨ ok = 6 ∨ (ok ≠ 0 ∧ ok ≠ 1 ∧ ok ≠ 2 ∧ ok ≠ 3 ∧ ok ≠ 4 ∧ ok ≠ 5 ∧ ok ≠ 6) by omega) with h | h | h | h | h | h | h | hno
          · as_aux_lemma =>
              subst h
              have HSTO := astore_any HS.out.a oa (.slice mba M.length mbc) M HMB.out HBM.out
              have HI := HIN.out oa M.length
              unfold tp at HSTO
              unfold inB at HI
              rcases inE_cases L.length oa M.length with ⟨h1, _⟩ | ⟨h1, p, m, rfl, hm, hkk⟩
              · have e1 : storeL L oa M = L := by unfold storeL; rw [if_neg (by omega)]
                rw [h1] at HI
                rw [h1, e1] at HSTO
                have HI2 := Lib.hid HI
                have HST2 := Lib.hid HSTO
                clear HI HSTO e1 h1
                go_wp2_with fail
                refine HI2.out.mono ?_
                rintro e w4 ⟨rfl, rfl⟩
                go_wp2_with fail
                refine HST2.out.mono ?_
                rintro e w4 ⟨rfl, A4, G4⟩
                have HP4 := Lib.hid (pl_same HS.out G4 A4)
                clear A4 G4 z0 z1 z2 z3 z4 z5 z6 zf
                go_wp2_with fail
                go_meet
                case rel => exact ⟨g, cap, gr, cr, L, rfl, HP4.out⟩
              · have e1 : storeL L (p : Int) M = lay L p M := by unfold storeL; rw [if_pos h1, Int.toNat_natCast]
                rw [h1] at HI
                rw [h1, e1] at HSTO
                have HI2 := Lib.hid HI
                have HST2 := Lib.hid HSTO
                have HKK : Hid (p + M.length ≤ L.length) := by show _ ≤ _; omega
                clear HI HSTO e1 h1 hm hkk
                go_wp2_with fail
                refine HI2.out.mono ?_
                rintro e w4 ⟨rfl, rfl⟩
                go_wp2_with fail
                refine HST2.out.mono ?_
                rintro e w4 ⟨rfl, A4, G4⟩
                clear z0 z1 z2 z3 z4 z5 z6 zf
                have HWI := Lib.hid (r3with_any (row_grown HS.out.r G4 (by intro e; injection e with e; exact HS.out.ng e.symm)) p _ M (readB_below HRM.out (b_grown HS.out.bw G4 HS.out.lg)) HBM.out HKK.out)
                obtain ⟨z0, z1, z2, z3, z4, z5, z6, zf⟩ := blk7 (blk_grown HB.out G4 (by intro e; injection e with e; exact HXN.out.2.1 e))
                have HA4 := Lib.hid A4
                have HG4 := Lib.hid G4
                clear A4 G4
                unfold rowV at HWI
                go_wp2_with fail
                refine HWI.out.mono ?_
                rintro e w5 ⟨g5, c5, rfl, R5, hg5, hb5⟩
                have HP5 := Lib.hid (pl_new HS.out HG4.out HA4.out hb5 R5 hg5)
                clear R5 hg5 hb5 z0 z1 z2 z3 z4 z5 z6 zf
                go_wp2_with fail
                go_meet
                case rel => exact ⟨g, cap, g5, c5, _, rfl, HP5.out⟩
          · as_aux_lemma =>
              subst h
              have HSTO := astore_any HS.out.a oa (.slice mba M.length mbc) M HMB.out HBM.out
              have HI := HIN.out oa M.length
              unfold tp at HSTO
              unfold inB at HI
              rcases inE_cases L.length oa M.length with ⟨h1, _⟩ | ⟨h1, p, m, rfl, hm, hkk⟩
              · have e1 : storeL L oa M = L := by unfold storeL; rw [if_neg (by omega)]
                rw [h1] at HI
                rw [h1, e1] at HSTO
                have HI2 := Lib.hid HI
                have HST2 := Lib.hid HSTO
                clear HI HSTO e1 h1
                go_wp2_with fail
                refine HI2.out.mono ?_
                rintro e w4 ⟨rfl, rfl⟩
                go_wp2_with fail
                refine HST2.out.mono ?_
                rintro e w4 ⟨rfl, A4, G4⟩
                have HP4 := Lib.hid (pl_same HS.out G4 A4)
                clear A4 G4 z0 z1 z2 z3 z4 z5 z6 zf
                go_wp2_with fail
                go_meet
                case rel => exact ⟨g, cap, gr, cr, L, rfl, HP4.out⟩
              · have e1 : storeL L (p : Int) M = lay L p M := by unfold storeL; rw [if_pos h1, Int.toNat_natCast]
                rw [h1] at HI
                rw [h1, e1] at HSTO
                have HI2 := Lib.hid HI
                have HST2 := Lib.hid HSTO
                have HKK : Hid (p + M.length ≤ L.length) := by show _ ≤ _; omega
                clear HI HSTO e1 h1 hm hkk
                go_wp2_with fail
                refine HI2.out.mono ?_
                rintro e w4 ⟨rfl, rfl⟩
                go_wp2_with fail
                refine HST2.out.mono ?_
                rintro e w4 ⟨rfl, A4, G4⟩
                clear z0 z1 z2 z3 z4 z5 z6 zf
                have HWI := Lib.hid (r3with_any (row_grown HS.out.r G4 (by intro e; injection e with e; exact HS.out.ng e.symm)) p _ M (readB_below HRM.out (b_grown HS.out.bw G4 HS.out.lg)) HBM.out HKK.out)
                obtain ⟨z0, z1, z2, z3, z4, z5, z6, zf⟩ := blk7 (blk_grown HB.out G4 (by intro e; injection e with e; exact HXN.out.2.1 e))
                have HA4 := Lib.hid A4
                have HG4 := Lib.hid G4
                clear A4 G4
                unfold rowV at HWI
                go_wp2_with fail
                refine HWI.out.mono ?_
                rintro e w5 ⟨g5, c5, rfl, R5, hg5, hb5⟩
                have HP5 := Lib.hid (pl_new HS.out HG4.out HA4.out hb5 R5 hg5)
                clear R5 hg5 hb5 z0 z1 z2 z3 z4 z5 z6 zf
                go_wp2_with fail
                go_meet
                case rel => exact ⟨g, cap, g5, c5, _, rfl, HP5.out⟩
          · as_aux_lemma =>
              subst h
              have HFI := afill_any HS.out.a oa on oc GC.out
              have HI := HIN.out oa on
              unfold tp at HFI
              unfold inB at HI
              rcases inE_cases L.length oa on with ⟨h1, _⟩ | ⟨h1, p, m, rfl, rfl, hkk⟩
              · have e1 : fillL L oa on oc = L := by unfold fillL; rw [if_neg (by omega)]
                rw [h1] at HI
                rw [h1, e1] at HFI
                have HI2 := Lib.hid HI
                have HFI2 := Lib.hid HFI
                clear HI HFI e1 h1
                go_wp2_with fail
                refine HI2.out.mono ?_
                rintro e w4 ⟨rfl, rfl⟩
                go_wp2_with fail
                refine HFI2.out.mono ?_
                rintro e w4 ⟨rfl, A4, G4⟩
                have HP4 := Lib.hid (pl_same HS.out G4 A4)
                clear A4 G4 z0 z1 z2 z3 z4 z5 z6 zf
                go_wp2_with fail
                go_loopw [11] (fun iv wr2 => iv = .int .i64 0 ∧ wr2 = w4) (fun _ _ => 0)
                case atStart => exact ⟨rfl, rfl⟩
                case round =>
                  obtain ⟨rfl, rfl⟩ := hrel
                  go_wp2_with fail
                  go_meet
                  case rel => exact ⟨g, cap, gr, cr, L, rfl, HP4.out⟩
              · have e1 : fillL L (p : Int) (m : Int) oc = lay L p (List.replicate m oc) := by unfold fillL; rw [if_pos h1, Int.toNat_natCast, Int.toNat_natCast]
                rw [h1] at HI
                rw [h1, e1] at HFI
                have HI2 := Lib.hid HI
                have HFI2 := Lib.hid HFI
                have HKK := Lib.hid hkk
                have hmx := HS.out.a.mx
                have p0 : (0 : Int) ≤ p := by omega
                have m0 : (0 : Int) ≤ m := by omega
                have pm : (p : Int) + m ≤ 65536 := by omega
                have hcr : (L.length : Int) ≤ cr := by have := HS.out.r.le; omega
                clear HI HFI e1 h1 hkk
                go_wp2_with fail
                refine HI2.out.mono ?_
                rintro e w4 ⟨rfl, rfl⟩
                go_wp2_with fail
                refine HFI2.out.mono ?_
                rintro e w4 ⟨rfl, A4, G4⟩
                clear z0 z1 z2 z3 z4 z5 z6 zf
                have H40 : Hid (AreAt w4 b g cap (lay L p (List.replicate m oc)) ∧ RowAt w4 gr cr (lay L p (List.replicate 0 oc)) ∧ Blk w4 xb [.int .i64 2, .int .i64 p, .int .i64 m, .int .u8 oc, .int .u64 ox, .slice mba M.length mbc, .slice ta A0.length tc] ∧ Below w.heap.size w w4) :=
                  ⟨A4, by rw [show lay L p (List.replicate 0 oc) = L by unfold lay; simp]; exact row_grown HS.out.r G4 (by intro e; injection e with e; exact HS.out.ng e.symm), blk_grown HB.out G4 (by intro e; injection e with e; exact HXN.out.2.1 e), b_grown HS.out.bw G4 HS.out.lg⟩
                clear A4 G4
                go_wp2_with fail
                go_loopw [11] (fun iv wr2 => ∃ j : Nat, iv = .int .i64 j ∧ j ≤ m ∧ Hid (AreAt wr2 b g cap (lay L p (List.replicate m oc)) ∧ RowAt wr2 gr cr (lay L p (List.replicate j oc)) ∧ Blk wr2 xb [.int .i64 2, .int .i64 p, .int .i64 m, .int .u8 oc, .int .u64 ox, .slice mba M.length mbc, .slice ta A0.length tc] ∧ Below w.heap.size w wr2)) (fun iv _ => m - (intOf iv).toNat)
                case atStart => exact ⟨0, rfl, Nat.zero_le _, H40.out⟩
                case round =>
                  obtain ⟨j, rfl, hj, hJ⟩ := hrel
                  obtain ⟨zA, zR, zB, zW⟩ := hJ.out
                  obtain ⟨z0, z1, z2, z3, z4, z5, z6, zf⟩ := blk7 zB
                  have j0 : (0 : Int) ≤ j := by omega
                  by_cases hlt2 : j < m
                  · have j1 : (j : Int) < m := by omega
                    have hl : (lay L p (List.replicate j oc)).length = L.length := lay_length (by rw [List.length_replicate]; have := HKK.out; omega)
                    have j2 : (p : Int) + j < L.length := by have := HKK.out; omega
                    have x0 := blkB_at zR.rw (p + j) (by rw [hl]; have := HKK.out; omega)
                    have gf := zR.rw.2.2
                    have gl := zR.rw.1
                    have HZA := Lib.hid zA
                    have HZR := Lib.hid zR
                    have HZB := Lib.hid zB
                    have HZW := Lib.hid zW
                    have HLL := Lib.hid hl
                    generalize (lay L p (List.replicate j oc)).getD (p + j) 0 = y at *
                    have HNN2 : Hid ((lay L p (List.replicate j oc)).set (p + j) oc = lay L p (List.replicate (j + 1) oc)) := lay_rep_step (by have := HKK.out; omega) oc
                    obtain ⟨i, hi⟩ : ∃ i, i = p + j := ⟨_, rfl⟩
                    have hi2 : (p : Int) + j = (i : Int) := by omega
                    rw [← hi] at x0
                    have i0 : (0 : Int) ≤ i := by omega
                    rw [hi2] at j2
                    have i3 : (i : Int) ≤ 65536 := by omega
                    have HI3 := Lib.hid hi
                    clear zA zR zB zW hl hi hJ
                    go_wp2_with fail
                    have G5 : wr.grownBy (wr.setCell ⟨gr, i, none⟩ (.int .u8 oc)) (some gr) := gb_set (gb_refl _ _) _ _ _
                    have R5 : RowAt (wr.setCell ⟨gr, i, none⟩ (.int .u8 oc)) gr cr (lay L p (List.replicate (j + 1) oc)) := by
                      have q := row_lay HZR.out (k := i) (M := [oc]) (by simp only [List.length_cons, List.length_nil]; rw [HLL.out, HI3.out]; have := HKK.out; omega) (isBytes_rep 1 GC.out)
                      rw [lay_one _ _ _ (by rw [HLL.out, HI3.out]; have := HKK.out; omega), HI3.out, HNN2.out] at q
                      rw [HI3.out]; exact q
                    exact ⟨⟨j + 1, by go_num, by omega, are_grown HZA.out G5 (by intro e; injection e with e; exact HS.out.nb e) (by intro e; injection e with e; exact HS.out.ng e), R5, blk_grown HZB.out G5 (by intro e; injection e with e; exact HXN.out.2.2.1 e), b_grown HZW.out G5 HS.out.lr⟩, by simp only [intOf]; omega⟩
                  · have e : j = m := by omega
                    subst e
                    have HP4 : Hid (PlS w wr b g cap gr cr (lay L p (List.replicate j oc))) := ⟨zA, zR, HS.out.ng, HS.out.nb, HS.out.lb, HS.out.lg, HS.out.lr, zW⟩
                    have HLL : Hid ((lay L p (List.replicate j oc)).length = L.length) := lay_length (by rw [List.length_replicate]; have := HKK.out; omega)
                    clear zA zR zB zW hJ
                    go_wp2_with fail
                    go_meet
                    case rel => exact ⟨g, cap, gr, cr, _, by unfold rowV; rw [HLL.out], HP4.out⟩
          · as_aux_lemma =>
              subst h
              have HSW := asetw_any HS.out.a oa ox GX.out.1 GX.out.2
              have HW := HWD.out oa
              unfold tp at HSW
              rcases wordE_cases L.length oa with ⟨h1, _⟩ | ⟨h1, _⟩ | ⟨h1, _, p, rfl, hkk, _⟩
              iterate 2
                · have e1 : setW L oa ox = L := by unfold setW; rw [if_neg (by omega)]
                  rw [h1, if_neg (by decide)] at HW
                  rw [h1, e1] at HSW
                  have HW2 := Lib.hid HW
                  have HSW2 := Lib.hid HSW
                  clear HW HSW e1 h1
                  go_wp2_with fail
                  refine HW2.out.mono ?_
                  rintro e w4 ⟨rfl, rfl⟩
                  go_wp2_with fail
                  refine HSW2.out.mono ?_
                  rintro e w4 ⟨rfl, A4, G4⟩
                  have HP4 := Lib.hid (pl_same HS.out G4 A4)
                  clear A4 G4 z0 z1 z2 z3 z4 z5 z6 zf
                  go_wp2_with fail
                  go_meet
                  case rel => exact ⟨g, cap, gr, cr, L, rfl, HP4.out⟩
              · have e1 : setW L (p : Int) ox = lay L p (putL 8 ox) := by rw [setW_ok h1, Int.toNat_natCast]
                rw [h1, if_pos rfl] at HW
                rw [h1, e1] at HSW
                have HW2 := Lib.hid HW
                have HSW2 := Lib.hid HSW
                have HKK := Lib.hid hkk
                clear HW HSW e1 h1 hkk
                go_wp2_with fail
                refine HW2.out.mono ?_
                rintro e w4 ⟨rfl, rfl⟩
                go_wp2_with fail
                refine HSW2.out.mono ?_
                rintro e w4 ⟨rfl, A4, G4⟩
                have B4 := blk_grown HB.out G4 (by intro e; injection e with e; exact HXN.out.2.1 e)
                have R4 := row_grown HS.out.r G4 (by intro e; injection e with e; exact HS.out.ng e.symm)
                have HXC : Hid (∀ w', Below w4.heap.size w4 w' → w'.cell? ⟨xb, 1, none⟩ = some (.int .i64 p) ∧ w'.cell? ⟨xb, 4, none⟩ = some (.int .u64 ox)) := Lib.hid (fun w' hb => by
                  obtain ⟨_, y1, _, _, y4, _⟩ := blk7 (blk_below B4 hb); exact ⟨y1, y4⟩)
                have HA4 := Lib.hid A4
                have HG4 := Lib.hid G4
                have HR4 := Lib.hid R4
                clear A4 G4 B4 R4 z0 z1 z2 z3 z4 z5 z6 zf
                go_wp2_with fail
                refine wp_region_held_drew (S := fun w' => w'.cell? ⟨xb, 1, none⟩ = some (.int .i64 p) ∧ w'.cell? ⟨xb, 4, none⟩ = some (.int .u64 ox)) (by kernel_rfl) (HXC.out _ (b_drew (Below.refl _ _))) (fun hHeld => ?_)
                (refine wpAnyH_take (i := 0) (v := ?_) rfl (by kernel_rfl) (by kernel_rfl) (by kernel_rfl) (fun _ _ _ h => h) (Or.inl ⟨by rfl, ?_⟩) hHeld ?_; rotate_left; (focus (intro w hSw; (try dsimp only at hSw); go_simp; try (with_reducible rfl))); (try simp only [Act.put, List.getElem_toArray, List.getElem_cons_succ, List.getElem_cons_zero, List.setIfInBounds_toArray, List.set_cons_zero, List.set_cons_succ]))
                (refine wpAnyH_take (i := 1) (v := ?_) rfl (by kernel_rfl) (by kernel_rfl) (by kernel_rfl) (fun _ _ _ h => h) (Or.inl ⟨by rfl, ?_⟩) hHeld ?_; rotate_left; (focus (intro w hSw; (try dsimp only at hSw); go_simp; try (with_reducible rfl))); (try simp only [Act.put, List.getElem_toArray, List.getElem_cons_succ, List.getElem_cons_zero, List.setIfInBounds_toArray, List.set_cons_zero, List.set_cons_succ]))
                (refine wpAnyH_take (i := 2) (v := ?_) rfl (by kernel_rfl) (by kernel_rfl) (by kernel_rfl) (fun _ _ _ h => h) (Or.inl ⟨by rfl, ?_⟩) hHeld ?_; rotate_left; (focus (intro w hSw; (try dsimp only at hSw); go_simp; try (with_reducible rfl))); (try simp only [Act.put, List.getElem_toArray, List.getElem_cons_succ, List.getElem_cons_zero, List.setIfInBounds_toArray, List.set_cons_zero, List.set_cons_succ]))
                (refine wpAnyH_take (i := 3) (v := ?_) rfl (by kernel_rfl) (by kernel_rfl) (by kernel_rfl) (fun _ _ _ h => h) (Or.inl ⟨by rfl, ?_⟩) hHeld ?_; rotate_left; (focus (intro w hSw; (try dsimp only at hSw); go_simp; try (with_reducible rfl))); (try simp only [Act.put, List.getElem_toArray, List.getElem_cons_succ, List.getElem_cons_zero, List.setIfInBounds_toArray, List.set_cons_zero, List.set_cons_succ]))
                (refine wpAnyH_take (i := 4) (v := ?_) rfl (by kernel_rfl) (by kernel_rfl) (by kernel_rfl) (fun _ _ _ h => h) (Or.inl ⟨by rfl, ?_⟩) hHeld ?_; rotate_left; (focus (intro w hSw; (try dsimp only at hSw); go_simp; try (with_reducible rfl))); (try simp only [Act.put, List.getElem_toArray, List.getElem_cons_succ, List.getElem_cons_zero, List.setIfInBounds_toArray, List.set_cons_zero, List.set_cons_succ]))
                refine wpAnyH_ready (rs := [5]) (by kernel_rfl) (by simp) (AllReadyH.cons rfl (fun K hK => ?_) AllReadyH.nil)
                go_simp
                refine (rnput_any 8 ox _ (by decide) GX.out.1 GX.out.2).mono ?_
                rintro e w7 ⟨v7, rfl, own7, hb7⟩
                have HB7 := Lib.hid (b_call (b_drew (Below.refl w4.heap.size w4)) hb7)
                have HO7 := Lib.hid own7
                clear own7 hb7
                refine hK.out _ _ (HXC.out _ HB7.out) (fun hHeld => ?_)
                clear hK K
                (try simp only [Act.put, List.getElem_toArray, List.getElem_cons_succ, List.getElem_cons_zero, List.setIfInBounds_toArray, List.set_cons_zero, List.set_cons_succ])
                refine wpAnyH_ready (rs := [6]) (by kernel_rfl) (by simp) (AllReadyH.cons rfl (fun K hK => ?_) AllReadyH.nil)
                go_simp
                refine (r3with_any (row_below HR4.out HB7.out) p v7 (putL 8 ox) (ownB_read HO7.out) (isBytes_putL _ _) (by rw [putL_length]; exact HKK.out)).mono ?_
                rintro e w8 ⟨g8, c8, rfl, R8, hg8, hb8⟩
                have hB8 := b_call HB7.out hb8
                have HP8 := Lib.hid (pl_new HS.out HG4.out HA4.out hB8 R8 (by have := HB7.out.size; omega))
                have HB8 := Lib.hid hB8
                clear R8 hg8 hb8 hB8
                unfold rowV
                refine hK.out _ _ (HXC.out _ HB8.out) (fun hHeld => ?_)
                clear hK K
                (try simp only [Act.put, List.getElem_toArray, List.getElem_cons_succ, List.getElem_cons_zero, List.setIfInBounds_toArray, List.set_cons_zero, List.set_cons_succ])
                (refine wpAnyH_take (i := 7) (v := ?_) rfl (by kernel_rfl) (by kernel_rfl) (by kernel_rfl) (fun _ _ _ h => h) (Or.inl ⟨by rfl, ?_⟩) hHeld ?_; rotate_left; (focus (intro w hSw; (try dsimp only at hSw); go_simp; try (with_reducible rfl))); (try simp only [Act.put, List.getElem_toArray, List.getElem_cons_succ, List.getElem_cons_zero, List.setIfInBounds_toArray, List.set_cons_zero, List.set_cons_succ]))
                refine wpAnyH_done (by kernel_rfl) ?_ _
                go_wp2_with fail
                go_meet
                case rel => exact ⟨g, cap, g8, c8, _, rfl, HP8.out⟩
          · as_aux_lemma =>
              subst h
              have HAW := aword_any HS.out.a oa
              have HW := HWD.out oa
              unfold tp at HAW
              generalize wordE L.length oa = e0 at *
              generalize (if e0 = 0 then getW L oa.toNat else 0) = y at *
              have HAW2 := Lib.hid HAW
              have HW2 := Lib.hid HW
              clear HAW HW
              go_wp2_with fail
              refine HAW2.out.mono ?_
              rintro e w4 ⟨rfl, rfl⟩
              go_wp2_with fail
              refine HW2.out.mono ?_
              rintro e w4 ⟨rfl, rfl⟩
              clear z0 z1 z2 z3 z4 z5 z6 zf
              go_wp2_with fail
              go_meet
              case rel => exact ⟨g, cap, gr, cr, L, rfl, HS.out⟩
          · as_aux_lemma =>
              subst h
              have HLD := aload_any HS.out.a oa on
              unfold tp at HLD
              rcases inE_cases L.length oa on with ⟨h1, _⟩ | ⟨h1, p, m, rfl, rfl, hkk⟩
              · have e1 : loadL L oa on = [] := by unfold loadL; rw [if_neg (by omega)]
                rw [h1, e1] at HLD
                have HLD2 := Lib.hid HLD
                have HE1 := Lib.hid h1
                clear HLD e1 h1
                go_wp2_with fail
                refine HLD2.out.mono ?_
                rintro e w4 ⟨v, rfl, rv, hb4, _⟩
                obtain ⟨va, vc, rfl⟩ := readB_len rv
                have HP4 := Lib.hid (pl_below HS.out hb4)
                have HI := r3in_any _ L (row_read (row_below HP4.out.r (b_drew (Below.refl _ _)))) HS.out.r.mx oa on
                unfold inB rowV at HI
                rw [HE1.out] at HI
                have HI2 := Lib.hid HI
                have B4 := blk_below HB.out hb4
                obtain ⟨_, y1, y2, _⟩ := blk7 B4
                have HK : Hid (w4.drew.cell? ⟨xb, 1, none⟩ = some (.int .i64 oa) ∧ w4.drew.cell? ⟨xb, 2, none⟩ = some (.int .i64 on)) := ⟨y1, y2⟩
                clear rv hb4 B4 HI y1 y2 z0 z1 z2 z3 z4 z5 z6 zf
                rw [List.length_nil]
                go_wp2_with fail
                refine wp_region_held_drew (S := fun w' => w'.cell? ⟨xb, 1, none⟩ = some (.int .i64 oa) ∧ w'.cell? ⟨xb, 2, none⟩ = some (.int .i64 on)) (by kernel_rfl) HK.out (fun hHeld => ?_)
                (refine wpAnyH_take (i := 0) (v := ?_) rfl (by kernel_rfl) (by kernel_rfl) (by kernel_rfl) (fun _ _ _ h => h) (Or.inl ⟨by rfl, ?_⟩) hHeld ?_; rotate_left; (focus (intro w hSw; (try dsimp only at hSw); go_simp; try (with_reducible rfl))); (try simp only [Act.put, List.getElem_toArray, List.getElem_cons_succ, List.getElem_cons_zero, List.setIfInBounds_toArray, List.set_cons_zero, List.set_cons_succ]))
                (refine wpAnyH_take (i := 1) (v := ?_) rfl (by kernel_rfl) (by kernel_rfl) (by kernel_rfl) (fun _ _ _ h => h) (Or.inl ⟨by rfl, ?_⟩) hHeld ?_; rotate_left; (focus (intro w hSw; (try dsimp only at hSw); go_simp; try (with_reducible rfl))); (try simp only [Act.put, List.getElem_toArray, List.getElem_cons_succ, List.getElem_cons_zero, List.setIfInBounds_toArray, List.set_cons_zero, List.set_cons_succ]))
                (refine wpAnyH_take (i := 2) (v := ?_) rfl (by kernel_rfl) (by kernel_rfl) (by kernel_rfl) (fun _ _ _ h => h) (Or.inl ⟨by rfl, ?_⟩) hHeld ?_; rotate_left; (focus (intro w hSw; (try dsimp only at hSw); go_simp; try (with_reducible rfl))); (try simp only [Act.put, List.getElem_toArray, List.getElem_cons_succ, List.getElem_cons_zero, List.setIfInBounds_toArray, List.set_cons_zero, List.set_cons_succ]))
                (refine wpAnyH_take (i := 3) (v := ?_) rfl (by kernel_rfl) (by kernel_rfl) (by kernel_rfl) (fun _ _ _ h => h) (Or.inl ⟨by rfl, ?_⟩) hHeld ?_; rotate_left; (focus (intro w hSw; (try dsimp only at hSw); go_simp; try (with_reducible rfl))); (try simp only [Act.put, List.getElem_toArray, List.getElem_cons_succ, List.getElem_cons_zero, List.setIfInBounds_toArray, List.set_cons_zero, List.set_cons_succ]))
                (refine wpAnyH_take (i := 4) (v := ?_) rfl (by kernel_rfl) (by kernel_rfl) (by kernel_rfl) (fun _ _ _ h => h) (Or.inl ⟨by rfl, ?_⟩) hHeld ?_; rotate_left; (focus (intro w hSw; (try dsimp only at hSw); go_simp; try (with_reducible rfl))); (try simp only [Act.put, List.getElem_toArray, List.getElem_cons_succ, List.getElem_cons_zero, List.setIfInBounds_toArray, List.set_cons_zero, List.set_cons_succ]))
                (refine wpAnyH_take (i := 5) (v := ?_) rfl (by kernel_rfl) (by kernel_rfl) (by kernel_rfl) (fun _ _ _ h => h) (Or.inl ⟨by rfl, ?_⟩) hHeld ?_; rotate_left; (focus (intro w hSw; (try dsimp only at hSw); go_simp; try (with_reducible rfl))); (try simp only [Act.put, List.getElem_toArray, List.getElem_cons_succ, List.getElem_cons_zero, List.setIfInBounds_toArray, List.set_cons_zero, List.set_cons_succ]))
                (refine wpAnyH_take (i := 6) (v := ?_) rfl (by kernel_rfl) (by kernel_rfl) (by kernel_rfl) (fun _ _ _ h => h) (Or.inl ⟨by rfl, ?_⟩) hHeld ?_; rotate_left; (focus (intro w hSw; (try dsimp only at hSw); go_simp; try (with_reducible rfl))); (try simp only [Act.put, List.getElem_toArray, List.getElem_cons_succ, List.getElem_cons_zero, List.setIfInBounds_toArray, List.set_cons_zero, List.set_cons_succ]))
                refine wpAnyH_ready (rs := [7]) (by kernel_rfl) (by simp) (AllReadyH.cons rfl (fun K hK => ?_) AllReadyH.nil)
                go_simp
                refine HI2.out.mono ?_
                rintro e w5 ⟨rfl, rfl⟩
                refine hK.out _ _ (HK.out) (fun hHeld => ?_)
                clear hK K
                (try simp only [Act.put, List.getElem_toArray, List.getElem_cons_succ, List.getElem_cons_zero, List.setIfInBounds_toArray, List.set_cons_zero, List.set_cons_succ])
                (refine wpAnyH_take (i := 8) (v := ?_) rfl (by kernel_rfl) (by kernel_rfl) (by kernel_rfl) (fun _ _ _ h => h) (Or.inl ⟨by rfl, ?_⟩) hHeld ?_; rotate_left; (focus (intro w hSw; (try dsimp only at hSw); go_simp; try (with_reducible rfl))); (try simp only [Act.put, List.getElem_toArray, List.getElem_cons_succ, List.getElem_cons_zero, List.setIfInBounds_toArray, List.set_cons_zero, List.set_cons_succ]))
                (refine wpAnyH_take (i := 9) (v := ?_) rfl (by kernel_rfl) (by kernel_rfl) (by kernel_rfl) (fun _ _ _ h => h) (Or.inl ⟨by rfl, ?_⟩) hHeld ?_; rotate_left; (focus (intro w hSw; (try dsimp only at hSw); go_simp; try (with_reducible rfl))); (try simp only [Act.put, List.getElem_toArray, List.getElem_cons_succ, List.getElem_cons_zero, List.setIfInBounds_toArray, List.set_cons_zero, List.set_cons_succ]))
                (refine wpAnyH_take (i := 10) (v := ?_) rfl (by kernel_rfl) (by kernel_rfl) (by kernel_rfl) (fun _ _ _ h => h) (Or.inl ⟨by rfl, ?_⟩) hHeld ?_; rotate_left; (focus (intro w hSw; (try dsimp only at hSw); go_simp; try (with_reducible rfl))); (try simp only [Act.put, List.getElem_toArray, List.getElem_cons_succ, List.getElem_cons_zero, List.setIfInBounds_toArray, List.set_cons_zero, List.set_cons_succ]))
                (refine wpAnyH_take (i := 11) (v := ?_) rfl (by kernel_rfl) (by kernel_rfl) (by kernel_rfl) (fun _ _ _ h => h) (Or.inl ⟨by rfl, ?_⟩) hHeld ?_; rotate_left; (focus (intro w hSw; (try dsimp only at hSw); go_simp; try (with_reducible rfl))); (try simp only [Act.put, List.getElem_toArray, List.getElem_cons_succ, List.getElem_cons_zero, List.setIfInBounds_toArray, List.set_cons_zero, List.set_cons_succ]))
                (refine wpAnyH_take (i := 12) (v := ?_) rfl (by kernel_rfl) (by kernel_rfl) (by kernel_rfl) (fun _ _ _ h => h) (Or.inl ⟨by rfl, ?_⟩) hHeld ?_; rotate_left; (focus (intro w hSw; (try dsimp only at hSw); go_simp; try (with_reducible rfl))); (try simp only [Act.put, List.getElem_toArray, List.getElem_cons_succ, List.getElem_cons_zero, List.setIfInBounds_toArray, List.set_cons_zero, List.set_cons_succ]))
                (refine wpAnyH_take (i := 13) (v := _) rfl (by kernel_rfl) (by kernel_rfl) (by kernel_rfl) (fun _ _ _ h => h) (Or.inr ⟨by rfl, rfl⟩) hHeld ?_; (try simp only [Act.put, List.getElem_toArray, List.getElem_cons_succ, List.getElem_cons_zero, List.setIfInBounds_toArray, List.set_cons_zero, List.set_cons_succ]))
                (refine wpAnyH_take (i := 14) (v := _) rfl (by kernel_rfl) (by kernel_rfl) (by kernel_rfl) (fun _ _ _ h => h) (Or.inr ⟨by rfl, rfl⟩) hHeld ?_; (try simp only [Act.put, List.getElem_toArray, List.getElem_cons_succ, List.getElem_cons_zero, List.setIfInBounds_toArray, List.set_cons_zero, List.set_cons_succ]))
                (refine wpAnyH_take (i := 15) (v := _) rfl (by kernel_rfl) (by kernel_rfl) (by kernel_rfl) (fun _ _ _ h => h) (Or.inr ⟨by rfl, rfl⟩) hHeld ?_; (try simp only [Act.put, List.getElem_toArray, List.getElem_cons_succ, List.getElem_cons_zero, List.setIfInBounds_toArray, List.set_cons_zero, List.set_cons_succ]))
                (refine wpAnyH_take (i := 16) (v := _) rfl (by kernel_rfl) (by kernel_rfl) (by kernel_rfl) (fun _ _ _ h => h) (Or.inr ⟨by rfl, rfl⟩) hHeld ?_; (try simp only [Act.put, List.getElem_toArray, List.getElem_cons_succ, List.getElem_cons_zero, List.setIfInBounds_toArray, List.set_cons_zero, List.set_cons_succ]))
                (refine wpAnyH_take (i := 17) (v := _) rfl (by kernel_rfl) (by kernel_rfl) (by kernel_rfl) (fun _ _ _ h => h) (Or.inr ⟨by rfl, rfl⟩) hHeld ?_; (try simp only [Act.put, List.getElem_toArray, List.getElem_cons_succ, List.getElem_cons_zero, List.setIfInBounds_toArray, List.set_cons_zero, List.set_cons_succ]))
                (refine wpAnyH_take (i := 18) (v := _) rfl (by kernel_rfl) (by kernel_rfl) (by kernel_rfl) (fun _ _ _ h => h) (Or.inr ⟨by rfl, rfl⟩) hHeld ?_; (try simp only [Act.put, List.getElem_toArray, List.getElem_cons_succ, List.getElem_cons_zero, List.setIfInBounds_toArray, List.set_cons_zero, List.set_cons_succ]))
                (refine wpAnyH_take (i := 19) (v := _) rfl (by kernel_rfl) (by kernel_rfl) (by kernel_rfl) (fun _ _ _ h => h) (Or.inr ⟨by rfl, rfl⟩) hHeld ?_; (try simp only [Act.put, List.getElem_toArray, List.getElem_cons_succ, List.getElem_cons_zero, List.setIfInBounds_toArray, List.set_cons_zero, List.set_cons_succ]))
                (refine wpAnyH_take (i := 20) (v := _) rfl (by kernel_rfl) (by kernel_rfl) (by kernel_rfl) (fun _ _ _ h => h) (Or.inr ⟨by rfl, rfl⟩) hHeld ?_; (try simp only [Act.put, List.getElem_toArray, List.getElem_cons_succ, List.getElem_cons_zero, List.setIfInBounds_toArray, List.set_cons_zero, List.set_cons_succ]))
                (refine wpAnyH_take (i := 21) (v := _) rfl (by kernel_rfl) (by kernel_rfl) (by kernel_rfl) (fun _ _ _ h => h) (Or.inr ⟨by rfl, rfl⟩) hHeld ?_; (try simp only [Act.put, List.getElem_toArray, List.getElem_cons_succ, List.getElem_cons_zero, List.setIfInBounds_toArray, List.set_cons_zero, List.set_cons_succ]))
                (refine wpAnyH_take (i := 22) (v := _) rfl (by kernel_rfl) (by kernel_rfl) (by kernel_rfl) (fun _ _ _ h => h) (Or.inr ⟨by rfl, rfl⟩) hHeld ?_; (try simp only [Act.put, List.getElem_toArray, List.getElem_cons_succ, List.getElem_cons_zero, List.setIfInBounds_toArray, List.set_cons_zero, List.set_cons_succ]))
                (refine wpAnyH_take (i := 23) (v := _) rfl (by kernel_rfl) (by kernel_rfl) (by kernel_rfl) (fun _ _ _ h => h) (Or.inr ⟨by rfl, rfl⟩) hHeld ?_; (try simp only [Act.put, List.getElem_toArray, List.getElem_cons_succ, List.getElem_cons_zero, List.setIfInBounds_toArray, List.set_cons_zero, List.set_cons_succ]))
                (refine wpAnyH_take (i := 24) (v := _) rfl (by kernel_rfl) (by kernel_rfl) (by kernel_rfl) (fun _ _ _ h => h) (Or.inr ⟨by rfl, rfl⟩) hHeld ?_; (try simp only [Act.put, List.getElem_toArray, List.getElem_cons_succ, List.getElem_cons_zero, List.setIfInBounds_toArray, List.set_cons_zero, List.set_cons_succ]))
                (refine wpAnyH_take (i := 25) (v := _) rfl (by kernel_rfl) (by kernel_rfl) (by kernel_rfl) (fun _ _ _ h => h) (Or.inr ⟨by rfl, rfl⟩) hHeld ?_; (try simp only [Act.put, List.getElem_toArray, List.getElem_cons_succ, List.getElem_cons_zero, List.setIfInBounds_toArray, List.set_cons_zero, List.set_cons_succ]))
                (refine wpAnyH_take (i := 26) (v := ?_) rfl (by kernel_rfl) (by kernel_rfl) (by kernel_rfl) (fun _ _ _ h => h) (Or.inl ⟨by rfl, ?_⟩) hHeld ?_; rotate_left; (focus (intro w hSw; (try dsimp only at hSw); go_simp; try (with_reducible rfl))); (try simp only [Act.put, List.getElem_toArray, List.getElem_cons_succ, List.getElem_cons_zero, List.setIfInBounds_toArray, List.set_cons_zero, List.set_cons_succ]))
                (refine wpAnyH_take (i := 27) (v := ?_) rfl (by kernel_rfl) (by kernel_rfl) (by kernel_rfl) (fun _ _ _ h => h) (Or.inl ⟨by rfl, ?_⟩) hHeld ?_; rotate_left; (focus (intro w hSw; (try dsimp only at hSw); go_simp; try (with_reducible rfl))); (try simp only [Act.put, List.getElem_toArray, List.getElem_cons_succ, List.getElem_cons_zero, List.setIfInBounds_toArray, List.set_cons_zero, List.set_cons_succ]))
                (refine wpAnyH_take (i := 28) (v := ?_) rfl (by kernel_rfl) (by kernel_rfl) (by kernel_rfl) (fun _ _ _ h => h) (Or.inl ⟨by rfl, ?_⟩) hHeld ?_; rotate_left; (focus (intro w hSw; (try dsimp only at hSw); go_simp; try (with_reducible rfl))); (try simp only [Act.put, List.getElem_toArray, List.getElem_cons_succ, List.getElem_cons_zero, List.setIfInBounds_toArray, List.set_cons_zero, List.set_cons_succ]))
                (refine wpAnyH_take (i := 29) (v := ?_) rfl (by kernel_rfl) (by kernel_rfl) (by kernel_rfl) (fun _ _ _ h => h) (Or.inl ⟨by rfl, ?_⟩) hHeld ?_; rotate_left; (focus (intro w hSw; (try dsimp only at hSw); go_simp; try (with_reducible rfl))); (try simp only [Act.put, List.getElem_toArray, List.getElem_cons_succ, List.getElem_cons_zero, List.setIfInBounds_toArray, List.set_cons_zero, List.set_cons_succ]))
                (refine wpAnyH_take (i := 30) (v := ?_) rfl (by kernel_rfl) (by kernel_rfl) (by kernel_rfl) (fun _ _ _ h => h) (Or.inl ⟨by rfl, ?_⟩) hHeld ?_; rotate_left; (focus (intro w hSw; (try dsimp only at hSw); go_simp; try (with_reducible rfl))); (try simp only [Act.put, List.getElem_toArray, List.getElem_cons_succ, List.getElem_cons_zero, List.setIfInBounds_toArray, List.set_cons_zero, List.set_cons_succ]))
                (refine wpAnyH_take (i := 31) (v := ?_) rfl (by kernel_rfl) (by kernel_rfl) (by kernel_rfl) (fun _ _ _ h => h) (Or.inl ⟨by rfl, ?_⟩) hHeld ?_; rotate_left; (focus (intro w hSw; (try dsimp only at hSw); go_simp; try (with_reducible rfl))); (try simp only [Act.put, List.getElem_toArray, List.getElem_cons_succ, List.getElem_cons_zero, List.setIfInBounds_toArray, List.set_cons_zero, List.set_cons_succ]))
                (refine wpAnyH_take (i := 32) (v := ?_) rfl (by kernel_rfl) (by kernel_rfl) (by kernel_rfl) (fun _ _ _ h => h) (Or.inl ⟨by rfl, ?_⟩) hHeld ?_; rotate_left; (focus (intro w hSw; (try dsimp only at hSw); go_simp; try (with_reducible rfl))); (try simp only [Act.put, List.getElem_toArray, List.getElem_cons_succ, List.getElem_cons_zero, List.setIfInBounds_toArray, List.set_cons_zero, List.set_cons_succ]))
                (refine wpAnyH_take (i := 33) (v := ?_) rfl (by kernel_rfl) (by kernel_rfl) (by kernel_rfl) (fun _ _ _ h => h) (Or.inl ⟨by rfl, ?_⟩) hHeld ?_; rotate_left; (focus (intro w hSw; (try dsimp only at hSw); go_simp; try (with_reducible rfl))); (try simp only [Act.put, List.getElem_toArray, List.getElem_cons_succ, List.getElem_cons_zero, List.setIfInBounds_toArray, List.set_cons_zero, List.set_cons_succ]))
                (refine wpAnyH_take (i := 34) (v := ?_) rfl (by kernel_rfl) (by kernel_rfl) (by kernel_rfl) (fun _ _ _ h => h) (Or.inl ⟨by rfl, ?_⟩) hHeld ?_; rotate_left; (focus (intro w hSw; (try dsimp only at hSw); go_simp; try (with_reducible rfl))); (try simp only [Act.put, List.getElem_toArray, List.getElem_cons_succ, List.getElem_cons_zero, List.setIfInBounds_toArray, List.set_cons_zero, List.set_cons_succ]))
                (refine wpAnyH_take (i := 35) (v := ?_) rfl (by kernel_rfl) (by kernel_rfl) (by kernel_rfl) (fun _ _ _ h => h) (Or.inl ⟨by rfl, ?_⟩) hHeld ?_; rotate_left; (focus (intro w hSw; (try dsimp only at hSw); go_simp; try (with_reducible rfl))); (try simp only [Act.put, List.getElem_toArray, List.getElem_cons_succ, List.getElem_cons_zero, List.setIfInBounds_toArray, List.set_cons_zero, List.set_cons_succ]))
                (refine wpAnyH_take (i := 36) (v := ?_) rfl (by kernel_rfl) (by kernel_rfl) (by kernel_rfl) (fun _ _ _ h => h) (Or.inl ⟨by rfl, ?_⟩) hHeld ?_; rotate_left; (focus (intro w hSw; (try dsimp only at hSw); go_simp; try (with_reducible rfl))); (try simp only [Act.put, List.getElem_toArray, List.getElem_cons_succ, List.getElem_cons_zero, List.setIfInBounds_toArray, List.set_cons_zero, List.set_cons_succ]))
                refine wpAnyH_done (by kernel_rfl) ?_ _
                have HP5 := Lib.hid (pl_below HP4.out (b_drew (Below.refl _ _)))
                go_wp2_with fail
                go_meet
                case rel => exact ⟨g, cap, gr, cr, L, rfl, HP5.out⟩
              · have e1 : loadL L (p : Int) (m : Int) = (L.drop p).take m := by unfold loadL; rw [if_pos h1, Int.toNat_natCast, Int.toNat_natCast]
                rw [h1, e1] at HLD
                have HLD2 := Lib.hid HLD
                have HE1 := Lib.hid h1
                have HKK := Lib.hid hkk
                have hmx := HS.out.r.mx
                have hcpm := cap_le HS.out.r.cp
                have hcr : L.length ≤ cr := HS.out.r.le
                obtain ⟨X, hX⟩ : ∃ X, X = (L.drop p).take m := ⟨_, rfl⟩
                rw [← hX] at HLD2
                have HXX := Lib.hid hX
                have hXB : IsBytes X := by rw [hX]; exact isBytes_take (isBytes_drop HS.out.a.by_ p) m
                have hXL : X.length = m := by rw [hX]; simp; omega
                have HXB := Lib.hid hXB
                have HXL := Lib.hid hXL
                obtain ⟨s, hs⟩ : ∃ s, s = bstr X := ⟨_, rfl⟩
                have HSS := Lib.hid hs
                have p0 : (0 : Int) ≤ p := by omega
                have m0 : (0 : Int) ≤ m := by omega
                have pm1 : (p : Int) ≤ (p : Int) + m := by omega
                have pm2 : (p : Int) + m ≤ L.length := by omega
                have pm3 : (p : Int) + m ≤ cr := by omega
                have pm4 : (p : Int) + m ≤ 65536 := by omega
                clear HLD e1 h1 hkk hX hXB hXL hs
                go_wp2_with fail
                refine HLD2.out.mono ?_
                rintro e w4 ⟨v, rfl, rv, hb4, _⟩
                obtain ⟨va, vc, rfl⟩ := readB_len rv
                have HP4 := Lib.hid (pl_below HS.out hb4)
                have HI := r3in_any _ L (row_read (row_below HP4.out.r (b_drew (Below.refl _ _)))) HS.out.r.mx p m
                unfold inB rowV at HI
                rw [HE1.out] at HI
                have HI2 := Lib.hid HI
                have B4 := blk_below HB.out hb4
                obtain ⟨_, y1, y2, _⟩ := blk7 B4
                have cv1 := conv_read (readB_drew rv) HXB.out
                rw [← HSS.out] at cv1
                have cvg : ∀ (q : Option Addr) (c : Nat), (0 < m → q = some ⟨gr, p, none⟩) → c = cr - p → q ≠ none → (convert 31 9 (.slice q m c)).run Try.prog w4.drew = .ok (.string s) w4.drew := fun q c h1 h2 h3 => by
                  have := conv_read (w := w4.drew) (xs := X) (n := m) (by rw [HXX.out]; exact readB_drew (readB_sub HP4.out.r.rw HP4.out.r.le HP4.out.r.cp HKK.out h1 h2 h3)) HXB.out
                  rw [← HSS.out] at this; exact this
                by_cases hck : cr = p
                · subst hck
                  have hm0 : m = 0 := by omega
                  subst hm0
                  have cv2 := cvg (some ⟨gr, 0, none⟩) 0 (fun h => absurd h (by omega)) (by omega) (by intro e; cases e)
                  have hwr1 : IntKind.i64.wrap (cr : Int) = cr := by rw [IntKind.wrap_i64]; omega
                  have hwr2 : IntKind.i64.wrap ((cr : Int) + 0) = cr := by rw [IntKind.wrap_i64]; omega
                  have HK : Hid (w4.drew.cell? ⟨xb, 1, none⟩ = some (.int .i64 cr) ∧ w4.drew.cell? ⟨xb, 2, none⟩ = some (.int .i64 ((0 : Nat) : Int)) ∧ (convert 31 9 (.slice va X.length vc)).run Try.prog w4.drew = .ok (.string s) w4.drew ∧ (convert 31 9 (.slice (some ⟨gr, 0, none⟩) 0 0)).run Try.prog w4.drew = .ok (.string s) w4.drew ∧ True) := ⟨y1, y2, cv1, cv2, trivial⟩
                  clear rv hb4 B4 HI y1 y2 z0 z1 z2 z3 z4 z5 z6 zf cv1 cv2 cvg
                  go_wp2_with fail
                  refine wp_region_held_drew (S := fun w' => w'.cell? ⟨xb, 1, none⟩ = some (.int .i64 cr) ∧ w'.cell? ⟨xb, 2, none⟩ = some (.int .i64 ((0 : Nat) : Int)) ∧ (convert 31 9 (.slice va X.length vc)).run Try.prog w' = .ok (.string s) w' ∧ (convert 31 9 (.slice (some ⟨gr, 0, none⟩) 0 0)).run Try.prog w' = .ok (.string s) w' ∧ True) (by kernel_rfl) HK.out (fun hHeld => ?_)
                  (refine wpAnyH_take (i := 0) (v := ?_) rfl (by kernel_rfl) (by kernel_rfl) (by kernel_rfl) (fun _ _ _ h => h) (Or.inl ⟨by rfl, ?_⟩) hHeld ?_; rotate_left; (focus (intro w hSw; (try dsimp only at hSw); go_simp; try (with_reducible rfl))); (try simp only [Act.put, List.getElem_toArray, List.getElem_cons_succ, List.getElem_cons_zero, List.setIfInBounds_toArray, List.set_cons_zero, List.set_cons_succ]))
                  (refine wpAnyH_take (i := 1) (v := ?_) rfl (by kernel_rfl) (by kernel_rfl) (by kernel_rfl) (fun _ _ _ h => h) (Or.inl ⟨by rfl, ?_⟩) hHeld ?_; rotate_left; (focus (intro w hSw; (try dsimp only at hSw); go_simp; try (with_reducible rfl))); (try simp only [Act.put, List.getElem_toArray, List.getElem_cons_succ, List.getElem_cons_zero, List.setIfInBounds_toArray, List.set_cons_zero, List.set_cons_succ]))
                  (refine wpAnyH_take (i := 2) (v := ?_) rfl (by kernel_rfl) (by kernel_rfl) (by kernel_rfl) (fun _ _ _ h => h) (Or.inl ⟨by rfl, ?_⟩) hHeld ?_; rotate_left; (focus (intro w hSw; (try dsimp only at hSw); go_simp; try (with_reducible rfl))); (try simp only [Act.put, List.getElem_toArray, List.getElem_cons_succ, List.getElem_cons_zero, List.setIfInBounds_toArray, List.set_cons_zero, List.set_cons_succ]))
                  (refine wpAnyH_take (i := 3) (v := ?_) rfl (by kernel_rfl) (by kernel_rfl) (by kernel_rfl) (fun _ _ _ h => h) (Or.inl ⟨by rfl, ?_⟩) hHeld ?_; rotate_left; (focus (intro w hSw; (try dsimp only at hSw); go_simp; try (with_reducible rfl))); (try simp only [Act.put, List.getElem_toArray, List.getElem_cons_succ, List.getElem_cons_zero, List.setIfInBounds_toArray, List.set_cons_zero, List.set_cons_succ]))
                  (refine wpAnyH_take (i := 4) (v := ?_) rfl (by kernel_rfl) (by kernel_rfl) (by kernel_rfl) (fun _ _ _ h => h) (Or.inl ⟨by rfl, ?_⟩) hHeld ?_; rotate_left; (focus (intro w hSw; (try dsimp only at hSw); go_simp; try (with_reducible rfl))); (try simp only [Act.put, List.getElem_toArray, List.getElem_cons_succ, List.getElem_cons_zero, List.setIfInBounds_toArray, List.set_cons_zero, List.set_cons_succ]))
                  (refine wpAnyH_take (i := 5) (v := ?_) rfl (by kernel_rfl) (by kernel_rfl) (by kernel_rfl) (fun _ _ _ h => h) (Or.inl ⟨by rfl, ?_⟩) hHeld ?_; rotate_left; (focus (intro w hSw; (try dsimp only at hSw); go_simp; try (with_reducible rfl))); (try simp only [Act.put, List.getElem_toArray, List.getElem_cons_succ, List.getElem_cons_zero, List.setIfInBounds_toArray, List.set_cons_zero, List.set_cons_succ]))
                  (refine wpAnyH_take (i := 6) (v := ?_) rfl (by kernel_rfl) (by kernel_rfl) (by kernel_rfl) (fun _ _ _ h => h) (Or.inl ⟨by rfl, ?_⟩) hHeld ?_; rotate_left; (focus (intro w hSw; (try dsimp only at hSw); go_simp; try (with_reducible rfl))); (try simp only [Act.put, List.getElem_toArray, List.getElem_cons_succ, List.getElem_cons_zero, List.setIfInBounds_toArray, List.set_cons_zero, List.set_cons_succ]))
                  refine wpAnyH_ready (rs := [7]) (by kernel_rfl) (by simp) (AllReadyH.cons rfl (fun K hK => ?_) AllReadyH.nil)
                  go_simp
                  refine HI2.out.mono ?_
                  rintro e w5 ⟨rfl, rfl⟩
                  refine hK.out _ _ (HK.out) (fun hHeld => ?_)
                  clear hK K
                  (try simp only [Act.put, List.getElem_toArray, List.getElem_cons_succ, List.getElem_cons_zero, List.setIfInBounds_toArray, List.set_cons_zero, List.set_cons_succ])
                  (refine wpAnyH_take (i := 8) (v := ?_) rfl (by kernel_rfl) (by kernel_rfl) (by kernel_rfl) (fun _ _ _ h => h) (Or.inl ⟨by rfl, ?_⟩) hHeld ?_; rotate_left; (focus (intro w hSw; (try dsimp only at hSw); go_simp; try (with_reducible rfl))); (try simp only [Act.put, List.getElem_toArray, List.getElem_cons_succ, List.getElem_cons_zero, List.setIfInBounds_toArray, List.set_cons_zero, List.set_cons_succ]))
                  (refine wpAnyH_take (i := 9) (v := ?_) rfl (by kernel_rfl) (by kernel_rfl) (by kernel_rfl) (fun _ _ _ h => h) (Or.inl ⟨by rfl, ?_⟩) hHeld ?_; rotate_left; (focus (intro w hSw; (try dsimp only at hSw); go_simp; try (with_reducible rfl))); (try simp only [Act.put, List.getElem_toArray, List.getElem_cons_succ, List.getElem_cons_zero, List.setIfInBounds_toArray, List.set_cons_zero, List.set_cons_succ]))
                  (refine wpAnyH_take (i := 10) (v := ?_) rfl (by kernel_rfl) (by kernel_rfl) (by kernel_rfl) (fun _ _ _ h => h) (Or.inl ⟨by rfl, ?_⟩) hHeld ?_; rotate_left; (focus (intro w hSw; (try dsimp only at hSw); go_simp; try (with_reducible rfl))); (try simp only [Act.put, List.getElem_toArray, List.getElem_cons_succ, List.getElem_cons_zero, List.setIfInBounds_toArray, List.set_cons_zero, List.set_cons_succ]))
                  (refine wpAnyH_take (i := 11) (v := ?_) rfl (by kernel_rfl) (by kernel_rfl) (by kernel_rfl) (fun _ _ _ h => h) (Or.inl ⟨by rfl, ?_⟩) hHeld ?_; rotate_left; (focus (intro w hSw; (try dsimp only at hSw); go_simp; try (with_reducible rfl))); (try simp only [Act.put, List.getElem_toArray, List.getElem_cons_succ, List.getElem_cons_zero, List.setIfInBounds_toArray, List.set_cons_zero, List.set_cons_succ]))
                  (refine wpAnyH_take (i := 12) (v := ?_) rfl (by kernel_rfl) (by kernel_rfl) (by kernel_rfl) (fun _ _ _ h => h) (Or.inl ⟨by rfl, ?_⟩) hHeld ?_; rotate_left; (focus (intro w hSw; (try dsimp only at hSw); go_simp; try (with_reducible rfl))); (try simp only [Act.put, List.getElem_toArray, List.getElem_cons_succ, List.getElem_cons_zero, List.setIfInBounds_toArray, List.set_cons_zero, List.set_cons_succ]))
                  (refine wpAnyH_take (i := 13) (v := ?_) rfl (by kernel_rfl) (by kernel_rfl) (by kernel_rfl) (fun _ _ _ h => h) (Or.inl ⟨by rfl, ?_⟩) hHeld ?_; rotate_left; (focus (intro w hSw; (try dsimp only at hSw); go_simp; try (with_reducible rfl))); (try simp only [Act.put, List.getElem_toArray, List.getElem_cons_succ, List.getElem_cons_zero, List.setIfInBounds_toArray, List.set_cons_zero, List.set_cons_succ]))
                  (refine wpAnyH_take (i := 14) (v := ?_) rfl (by kernel_rfl) (by kernel_rfl) (by kernel_rfl) (fun _ _ _ h => h) (Or.inl ⟨by rfl, ?_⟩) hHeld ?_; rotate_left; (focus (intro w hSw; (try dsimp only at hSw); go_simp; try (with_reducible rfl))); (try simp only [Act.put, List.getElem_toArray, List.getElem_cons_succ, List.getElem_cons_zero, List.setIfInBounds_toArray, List.set_cons_zero, List.set_cons_succ]))
                  (refine wpAnyH_take (i := 15) (v := ?_) rfl (by kernel_rfl) (by kernel_rfl) (by kernel_rfl) (fun _ _ _ h => h) (Or.inl ⟨by rfl, ?_⟩) hHeld ?_; rotate_left; (focus (intro w hSw; (try dsimp only at hSw); go_simp; try (with_reducible rfl))); (try simp only [Act.put, List.getElem_toArray, List.getElem_cons_succ, List.getElem_cons_zero, List.setIfInBounds_toArray, List.set_cons_zero, List.set_cons_succ]))
                  (refine wpAnyH_take (i := 16) (v := ?_) rfl (by kernel_rfl) (by kernel_rfl) (by kernel_rfl) (fun _ _ _ h => h) (Or.inl ⟨by rfl, ?_⟩) hHeld ?_; rotate_left; (focus (intro w hSw; (try dsimp only at hSw); go_simp; try (with_reducible rfl))); (try simp only [Act.put, List.getElem_toArray, List.getElem_cons_succ, List.getElem_cons_zero, List.setIfInBounds_toArray, List.set_cons_zero, List.set_cons_succ]))
                  (refine wpAnyH_take (i := 17) (v := ?_) rfl (by kernel_rfl) (by kernel_rfl) (by kernel_rfl) (fun _ _ _ h => h) (Or.inl ⟨by rfl, ?_⟩) hHeld ?_; rotate_left; (focus (intro w hSw; (try dsimp only at hSw); go_simp; try (with_reducible rfl))); (try simp only [Act.put, List.getElem_toArray, List.getElem_cons_succ, List.getElem_cons_zero, List.setIfInBounds_toArray, List.set_cons_zero, List.set_cons_succ]))
                  (refine wpAnyH_take (i := 18) (v := ?_) rfl (by kernel_rfl) (by kernel_rfl) (by kernel_rfl) (fun _ _ _ h => h) (Or.inl ⟨by rfl, ?_⟩) hHeld ?_; rotate_left; (focus (intro w hSw; (try dsimp only at hSw); go_simp; try (with_reducible rfl))); (try simp only [Act.put, List.getElem_toArray, List.getElem_cons_succ, List.getElem_cons_zero, List.setIfInBounds_toArray, List.set_cons_zero, List.set_cons_succ]))
                  (refine wpAnyH_take (i := 19) (v := ?_) rfl (by kernel_rfl) (by kernel_rfl) (by kernel_rfl) (fun _ _ _ h => h) (Or.inl ⟨by rfl, ?_⟩) hHeld ?_; rotate_left; (focus (intro w hSw; (try dsimp only at hSw); go_simp; try (with_reducible rfl))); (try simp only [Act.put, List.getElem_toArray, List.getElem_cons_succ, List.getElem_cons_zero, List.setIfInBounds_toArray, List.set_cons_zero, List.set_cons_succ]))
                  (refine wpAnyH_take (i := 20) (v := ?_) rfl (by kernel_rfl) (by kernel_rfl) (by kernel_rfl) (fun _ _ _ h => h) (Or.inl ⟨by rfl, ?_⟩) hHeld ?_; rotate_left; (focus (intro w hSw; (try dsimp only at hSw); go_simp; try (with_reducible rfl))); (try simp only [Act.put, List.getElem_toArray, List.getElem_cons_succ, List.getElem_cons_zero, List.setIfInBounds_toArray, List.set_cons_zero, List.set_cons_succ]))
                  (refine wpAnyH_take (i := 21) (v := ?_) rfl (by kernel_rfl) (by kernel_rfl) (by kernel_rfl) (fun _ _ _ h => h) (Or.inl ⟨by rfl, ?_⟩) hHeld ?_; rotate_left; (focus (intro w hSw; (try dsimp only at hSw); go_simp; try (with_reducible rfl))); (try simp only [Act.put, List.getElem_toArray, List.getElem_cons_succ, List.getElem_cons_zero, List.setIfInBounds_toArray, List.set_cons_zero, List.set_cons_succ]))
                  (refine wpAnyH_take (i := 22) (v := ?_) rfl (by kernel_rfl) (by kernel_rfl) (by kernel_rfl) (fun _ _ _ h => h) (Or.inl ⟨by rfl, ?_⟩) hHeld ?_; rotate_left; (focus (intro w hSw; (try dsimp only at hSw); go_simp; try (with_reducible rfl))); (try simp only [Act.put, List.getElem_toArray, List.getElem_cons_succ, List.getElem_cons_zero, List.setIfInBounds_toArray, List.set_cons_zero, List.set_cons_succ]))
                  (refine wpAnyH_take (i := 23) (v := ?_) rfl (by kernel_rfl) (by kernel_rfl) (by kernel_rfl) (fun _ _ _ h => h) (Or.inl ⟨by rfl, ?_⟩) hHeld ?_; rotate_left; (focus (intro w hSw; (try dsimp only at hSw); go_simp; try (with_reducible rfl))); (try simp only [Act.put, List.getElem_toArray, List.getElem_cons_succ, List.getElem_cons_zero, List.setIfInBounds_toArray, List.set_cons_zero, List.set_cons_succ]))
                  (refine wpAnyH_take (i := 24) (v := ?_) rfl (by kernel_rfl) (by kernel_rfl) (by kernel_rfl) (fun _ _ _ h => h) (Or.inl ⟨by rfl, ?_⟩) hHeld ?_; rotate_left; (focus (intro w hSw; (try dsimp only at hSw); go_simp; try (with_reducible rfl))); (try simp only [Act.put, List.getElem_toArray, List.getElem_cons_succ, List.getElem_cons_zero, List.setIfInBounds_toArray, List.set_cons_zero, List.set_cons_succ]))
                  (refine wpAnyH_take (i := 25) (v := ?_) rfl (by kernel_rfl) (by kernel_rfl) (by kernel_rfl) (fun _ _ _ h => h) (Or.inl ⟨by rfl, ?_⟩) hHeld ?_; rotate_left; (focus (intro w hSw; (try dsimp only at hSw); go_simp; try (with_reducible rfl))); (try simp only [Act.put, List.getElem_toArray, List.getElem_cons_succ, List.getElem_cons_zero, List.setIfInBounds_toArray, List.set_cons_zero, List.set_cons_succ]))
                  (refine wpAnyH_take (i := 26) (v := ?_) rfl (by kernel_rfl) (by kernel_rfl) (by kernel_rfl) (fun _ _ _ h => h) (Or.inl ⟨by rfl, ?_⟩) hHeld ?_; rotate_left; (focus (intro w hSw; (try dsimp only at hSw); go_simp; try (with_reducible rfl))); (try simp only [Act.put, List.getElem_toArray, List.getElem_cons_succ, List.getElem_cons_zero, List.setIfInBounds_toArray, List.set_cons_zero, List.set_cons_succ]))
                  (refine wpAnyH_take (i := 27) (v := ?_) rfl (by kernel_rfl) (by kernel_rfl) (by kernel_rfl) (fun _ _ _ h => h) (Or.inl ⟨by rfl, ?_⟩) hHeld ?_; rotate_left; (focus (intro w hSw; (try dsimp only at hSw); go_simp; try (with_reducible rfl))); (try simp only [Act.put, List.getElem_toArray, List.getElem_cons_succ, List.getElem_cons_zero, List.setIfInBounds_toArray, List.set_cons_zero, List.set_cons_succ]))
                  (refine wpAnyH_take (i := 28) (v := ?_) rfl (by kernel_rfl) (by kernel_rfl) (by kernel_rfl) (fun _ _ _ h => h) (Or.inl ⟨by rfl, ?_⟩) hHeld ?_; rotate_left; (focus (intro w hSw; (try dsimp only at hSw); go_simp; try (with_reducible rfl))); (try simp only [Act.put, List.getElem_toArray, List.getElem_cons_succ, List.getElem_cons_zero, List.setIfInBounds_toArray, List.set_cons_zero, List.set_cons_succ]))
                  (refine wpAnyH_take (i := 29) (v := ?_) rfl (by kernel_rfl) (by kernel_rfl) (by kernel_rfl) (fun _ _ _ h => h) (Or.inl ⟨by rfl, ?_⟩) hHeld ?_; rotate_left; (focus (intro w hSw; (try dsimp only at hSw); go_simp; try (with_reducible rfl))); (try simp only [Act.put, List.getElem_toArray, List.getElem_cons_succ, List.getElem_cons_zero, List.setIfInBounds_toArray, List.set_cons_zero, List.set_cons_succ]))
                  (refine wpAnyH_take (i := 30) (v := ?_) rfl (by kernel_rfl) (by kernel_rfl) (by kernel_rfl) (fun _ _ _ h => h) (Or.inl ⟨by rfl, ?_⟩) hHeld ?_; rotate_left; (focus (intro w hSw; (try dsimp only at hSw); go_simp; try (with_reducible rfl))); (try simp only [Act.put, List.getElem_toArray, List.getElem_cons_succ, List.getElem_cons_zero, List.setIfInBounds_toArray, List.set_cons_zero, List.set_cons_succ]))
                  (refine wpAnyH_take (i := 31) (v := ?_) rfl (by kernel_rfl) (by kernel_rfl) (by kernel_rfl) (fun _ _ _ h => h) (Or.inl ⟨by rfl, ?_⟩) hHeld ?_; rotate_left; (focus (intro w hSw; (try dsimp only at hSw); go_simp; try (with_reducible rfl))); (try simp only [Act.put, List.getElem_toArray, List.getElem_cons_succ, List.getElem_cons_zero, List.setIfInBounds_toArray, List.set_cons_zero, List.set_cons_succ]))
                  (refine wpAnyH_take (i := 32) (v := _) rfl (by kernel_rfl) (by kernel_rfl) (by kernel_rfl) (fun _ _ _ h => h) (Or.inr ⟨by rfl, rfl⟩) hHeld ?_; (try simp only [Act.put, List.getElem_toArray, List.getElem_cons_succ, List.getElem_cons_zero, List.setIfInBounds_toArray, List.set_cons_zero, List.set_cons_succ]))
                  (refine wpAnyH_take (i := 33) (v := _) rfl (by kernel_rfl) (by kernel_rfl) (by kernel_rfl) (fun _ _ _ h => h) (Or.inr ⟨by rfl, rfl⟩) hHeld ?_; (try simp only [Act.put, List.getElem_toArray, List.getElem_cons_succ, List.getElem_cons_zero, List.setIfInBounds_toArray, List.set_cons_zero, List.set_cons_succ]))
                  (refine wpAnyH_take (i := 34) (v := _) rfl (by kernel_rfl) (by kernel_rfl) (by kernel_rfl) (fun _ _ _ h => h) (Or.inr ⟨by rfl, rfl⟩) hHeld ?_; (try simp only [Act.put, List.getElem_toArray, List.getElem_cons_succ, List.getElem_cons_zero, List.setIfInBounds_toArray, List.set_cons_zero, List.set_cons_succ]))
                  (refine wpAnyH_take (i := 35) (v := ?_) rfl (by kernel_rfl) (by kernel_rfl) (by kernel_rfl) (fun _ _ _ h => h) (Or.inl ⟨by rfl, ?_⟩) hHeld ?_; rotate_left; (focus (intro w hSw; (try dsimp only at hSw); go_simp; try (with_reducible rfl))); (try simp only [Act.put, List.getElem_toArray, List.getElem_cons_succ, List.getElem_cons_zero, List.setIfInBounds_toArray, List.set_cons_zero, List.set_cons_succ]))
                  (refine wpAnyH_take (i := 36) (v := ?_) rfl (by kernel_rfl) (by kernel_rfl) (by kernel_rfl) (fun _ _ _ h => h) (Or.inl ⟨by rfl, ?_⟩) hHeld ?_; rotate_left; (focus (intro w hSw; (try dsimp only at hSw); go_simp; try (with_reducible rfl))); (try simp only [Act.put, List.getElem_toArray, List.getElem_cons_succ, List.getElem_cons_zero, List.setIfInBounds_toArray, List.set_cons_zero, List.set_cons_succ]))
                  refine wpAnyH_done (by kernel_rfl) ?_ _
                  have HP5 := Lib.hid (pl_below HP4.out (b_drew (Below.refl _ _)))
                  go_wp2_with fail
                  go_meet
                  case rel => exact ⟨g, cap, gr, cr, L, rfl, HP5.out⟩
                · have cv2 := cvg (some ⟨gr, p, none⟩) (cr - p) (fun _ => rfl) rfl (by intro e; cases e)
                  obtain ⟨q, hq⟩ : ∃ q, q = p + m := ⟨_, rfl⟩
                  have hwr1 : IntKind.i64.wrap ((p : Int) + m) = (q : Int) := by rw [IntKind.wrap_i64]; omega
                  have q0 : (0 : Int) ≤ q := by omega
                  have q1 : (q : Int) ≤ cr := by omega
                  have q2 : p ≤ q := by omega
                  have q3 : q - p = m := by omega
                  have HQQ := Lib.hid hq
                  clear hq
                  have HK : Hid (w4.drew.cell? ⟨xb, 1, none⟩ = some (.int .i64 p) ∧ w4.drew.cell? ⟨xb, 2, none⟩ = some (.int .i64 m) ∧ (convert 31 9 (.slice va X.length vc)).run Try.prog w4.drew = .ok (.string s) w4.drew ∧ (convert 31 9 (.slice (some ⟨gr, p, none⟩) m (cr - p))).run Try.prog w4.drew = .ok (.string s) w4.drew ∧ True) := ⟨y1, y2, cv1, cv2, trivial⟩
                  clear rv hb4 B4 HI y1 y2 z0 z1 z2 z3 z4 z5 z6 zf cv1 cv2 cvg
                  go_wp2_with fail
                  refine wp_region_held_drew (S := fun w' => w'.cell? ⟨xb, 1, none⟩ = some (.int .i64 p) ∧ w'.cell? ⟨xb, 2, none⟩ = some (.int .i64 m) ∧ (convert 31 9 (.slice va X.length vc)).run Try.prog w' = .ok (.string s) w' ∧ (convert 31 9 (.slice (some ⟨gr, p, none⟩) m (cr - p))).run Try.prog w' = .ok (.string s) w' ∧ True) (by kernel_rfl) HK.out (fun hHeld => ?_)
                  (refine wpAnyH_take (i := 0) (v := ?_) rfl (by kernel_rfl) (by kernel_rfl) (by kernel_rfl) (fun _ _ _ h => h) (Or.inl ⟨by rfl, ?_⟩) hHeld ?_; rotate_left; (focus (intro w hSw; (try dsimp only at hSw); go_simp; try (with_reducible rfl))); (try simp only [Act.put, List.getElem_toArray, List.getElem_cons_succ, List.getElem_cons_zero, List.setIfInBounds_toArray, List.set_cons_zero, List.set_cons_succ]))
                  (refine wpAnyH_take (i := 1) (v := ?_) rfl (by kernel_rfl) (by kernel_rfl) (by kernel_rfl) (fun _ _ _ h => h) (Or.inl ⟨by rfl, ?_⟩) hHeld ?_; rotate_left; (focus (intro w hSw; (try dsimp only at hSw); go_simp; try (with_reducible rfl))); (try simp only [Act.put, List.getElem_toArray, List.getElem_cons_succ, List.getElem_cons_zero, List.setIfInBounds_toArray, List.set_cons_zero, List.set_cons_succ]))
                  (refine wpAnyH_take (i := 2) (v := ?_) rfl (by kernel_rfl) (by kernel_rfl) (by kernel_rfl) (fun _ _ _ h => h) (Or.inl ⟨by rfl, ?_⟩) hHeld ?_; rotate_left; (focus (intro w hSw; (try dsimp only at hSw); go_simp; try (with_reducible rfl))); (try simp only [Act.put, List.getElem_toArray, List.getElem_cons_succ, List.getElem_cons_zero, List.setIfInBounds_toArray, List.set_cons_zero, List.set_cons_succ]))
                  (refine wpAnyH_take (i := 3) (v := ?_) rfl (by kernel_rfl) (by kernel_rfl) (by kernel_rfl) (fun _ _ _ h => h) (Or.inl ⟨by rfl, ?_⟩) hHeld ?_; rotate_left; (focus (intro w hSw; (try dsimp only at hSw); go_simp; try (with_reducible rfl))); (try simp only [Act.put, List.getElem_toArray, List.getElem_cons_succ, List.getElem_cons_zero, List.setIfInBounds_toArray, List.set_cons_zero, List.set_cons_succ]))
                  (refine wpAnyH_take (i := 4) (v := ?_) rfl (by kernel_rfl) (by kernel_rfl) (by kernel_rfl) (fun _ _ _ h => h) (Or.inl ⟨by rfl, ?_⟩) hHeld ?_; rotate_left; (focus (intro w hSw; (try dsimp only at hSw); go_simp; try (with_reducible rfl))); (try simp only [Act.put, List.getElem_toArray, List.getElem_cons_succ, List.getElem_cons_zero, List.setIfInBounds_toArray, List.set_cons_zero, List.set_cons_succ]))
                  (refine wpAnyH_take (i := 5) (v := ?_) rfl (by kernel_rfl) (by kernel_rfl) (by kernel_rfl) (fun _ _ _ h => h) (Or.inl ⟨by rfl, ?_⟩) hHeld ?_; rotate_left; (focus (intro w hSw; (try dsimp only at hSw); go_simp; try (with_reducible rfl))); (try simp only [Act.put, List.getElem_toArray, List.getElem_cons_succ, List.getElem_cons_zero, List.setIfInBounds_toArray, List.set_cons_zero, List.set_cons_succ]))
                  (refine wpAnyH_take (i := 6) (v := ?_) rfl (by kernel_rfl) (by kernel_rfl) (by kernel_rfl) (fun _ _ _ h => h) (Or.inl ⟨by rfl, ?_⟩) hHeld ?_; rotate_left; (focus (intro w hSw; (try dsimp only at hSw); go_simp; try (with_reducible rfl))); (try simp only [Act.put, List.getElem_toArray, List.getElem_cons_succ, List.getElem_cons_zero, List.setIfInBounds_toArray, List.set_cons_zero, List.set_cons_succ]))
                  refine wpAnyH_ready (rs := [7]) (by kernel_rfl) (by simp) (AllReadyH.cons rfl (fun K hK => ?_) AllReadyH.nil)
                  go_simp
                  refine HI2.out.mono ?_
                  rintro e w5 ⟨rfl, rfl⟩
                  refine hK.out _ _ (HK.out) (fun hHeld => ?_)
                  clear hK K
                  (try simp only [Act.put, List.getElem_toArray, List.getElem_cons_succ, List.getElem_cons_zero, List.setIfInBounds_toArray, List.set_cons_zero, List.set_cons_succ])
                  (refine wpAnyH_take (i := 8) (v := ?_) rfl (by kernel_rfl) (by kernel_rfl) (by kernel_rfl) (fun _ _ _ h => h) (Or.inl ⟨by rfl, ?_⟩) hHeld ?_; rotate_left; (focus (intro w hSw; (try dsimp only at hSw); go_simp; try (with_reducible rfl))); (try simp only [Act.put, List.getElem_toArray, List.getElem_cons_succ, List.getElem_cons_zero, List.setIfInBounds_toArray, List.set_cons_zero, List.set_cons_succ]))
                  (refine wpAnyH_take (i := 9) (v := ?_) rfl (by kernel_rfl) (by kernel_rfl) (by kernel_rfl) (fun _ _ _ h => h) (Or.inl ⟨by rfl, ?_⟩) hHeld ?_; rotate_left; (focus (intro w hSw; (try dsimp only at hSw); go_simp; try (with_reducible rfl))); (try simp only [Act.put, List.getElem_toArray, List.getElem_cons_succ, List.getElem_cons_zero, List.setIfInBounds_toArray, List.set_cons_zero, List.set_cons_succ]))
                  (refine wpAnyH_take (i := 10) (v := ?_) rfl (by kernel_rfl) (by kernel_rfl) (by kernel_rfl) (fun _ _ _ h => h) (Or.inl ⟨by rfl, ?_⟩) hHeld ?_; rotate_left; (focus (intro w hSw; (try dsimp only at hSw); go_simp; try (with_reducible rfl))); (try simp only [Act.put, List.getElem_toArray, List.getElem_cons_succ, List.getElem_cons_zero, List.setIfInBounds_toArray, List.set_cons_zero, List.set_cons_succ]))
                  (refine wpAnyH_take (i := 11) (v := ?_) rfl (by kernel_rfl) (by kernel_rfl) (by kernel_rfl) (fun _ _ _ h => h) (Or.inl ⟨by rfl, ?_⟩) hHeld ?_; rotate_left; (focus (intro w hSw; (try dsimp only at hSw); go_simp; try (with_reducible rfl))); (try simp only [Act.put, List.getElem_toArray, List.getElem_cons_succ, List.getElem_cons_zero, List.setIfInBounds_toArray, List.set_cons_zero, List.set_cons_succ]))
                  (refine wpAnyH_take (i := 12) (v := ?_) rfl (by kernel_rfl) (by kernel_rfl) (by kernel_rfl) (fun _ _ _ h => h) (Or.inl ⟨by rfl, ?_⟩) hHeld ?_; rotate_left; (focus (intro w hSw; (try dsimp only at hSw); go_simp; try (with_reducible rfl))); (try simp only [Act.put, List.getElem_toArray, List.getElem_cons_succ, List.getElem_cons_zero, List.setIfInBounds_toArray, List.set_cons_zero, List.set_cons_succ]))
                  (refine wpAnyH_take (i := 13) (v := ?_) rfl (by kernel_rfl) (by kernel_rfl) (by kernel_rfl) (fun _ _ _ h => h) (Or.inl ⟨by rfl, ?_⟩) hHeld ?_; rotate_left; (focus (intro w hSw; (try dsimp only at hSw); go_simp; try (with_reducible rfl))); (try simp only [Act.put, List.getElem_toArray, List.getElem_cons_succ, List.getElem_cons_zero, List.setIfInBounds_toArray, List.set_cons_zero, List.set_cons_succ]))
                  (refine wpAnyH_take (i := 14) (v := ?_) rfl (by kernel_rfl) (by kernel_rfl) (by kernel_rfl) (fun _ _ _ h => h) (Or.inl ⟨by rfl, ?_⟩) hHeld ?_; rotate_left; (focus (intro w hSw; (try dsimp only at hSw); go_simp; try (with_reducible rfl))); (try simp only [Act.put, List.getElem_toArray, List.getElem_cons_succ, List.getElem_cons_zero, List.setIfInBounds_toArray, List.set_cons_zero, List.set_cons_succ]))
                  (refine wpAnyH_take (i := 15) (v := ?_) rfl (by kernel_rfl) (by kernel_rfl) (by kernel_rfl) (fun _ _ _ h => h) (Or.inl ⟨by rfl, ?_⟩) hHeld ?_; rotate_left; (focus (intro w hSw; (try dsimp only at hSw); go_simp; try (with_reducible rfl))); (try simp only [Act.put, List.getElem_toArray, List.getElem_cons_succ, List.getElem_cons_zero, List.setIfInBounds_toArray, List.set_cons_zero, List.set_cons_succ]))
                  (refine wpAnyH_take (i := 16) (v := ?_) rfl (by kernel_rfl) (by kernel_rfl) (by kernel_rfl) (fun _ _ _ h => h) (Or.inl ⟨by rfl, ?_⟩) hHeld ?_; rotate_left; (focus (intro w hSw; (try dsimp only at hSw); go_simp; try (with_reducible rfl))); (try simp only [Act.put, List.getElem_toArray, List.getElem_cons_succ, List.getElem_cons_zero, List.setIfInBounds_toArray, List.set_cons_zero, List.set_cons_succ]))
                  (refine wpAnyH_take (i := 17) (v := ?_) rfl (by kernel_rfl) (by kernel_rfl) (by kernel_rfl) (fun _ _ _ h => h) (Or.inl ⟨by rfl, ?_⟩) hHeld ?_; rotate_left; (focus (intro w hSw; (try dsimp only at hSw); go_simp; try (with_reducible rfl))); (try simp only [Act.put, List.getElem_toArray, List.getElem_cons_succ, List.getElem_cons_zero, List.setIfInBounds_toArray, List.set_cons_zero, List.set_cons_succ]))
                  (refine wpAnyH_take (i := 18) (v := ?_) rfl (by kernel_rfl) (by kernel_rfl) (by kernel_rfl) (fun _ _ _ h => h) (Or.inl ⟨by rfl, ?_⟩) hHeld ?_; rotate_left; (focus (intro w hSw; (try dsimp only at hSw); go_simp; try (with_reducible rfl))); (try simp only [Act.put, List.getElem_toArray, List.getElem_cons_succ, List.getElem_cons_zero, List.setIfInBounds_toArray, List.set_cons_zero, List.set_cons_succ]))
                  (refine wpAnyH_take (i := 19) (v := ?_) rfl (by kernel_rfl) (by kernel_rfl) (by kernel_rfl) (fun _ _ _ h => h) (Or.inl ⟨by rfl, ?_⟩) hHeld ?_; rotate_left; (focus (intro w hSw; (try dsimp only at hSw); go_simp; try (with_reducible rfl))); (try simp only [Act.put, List.getElem_toArray, List.getElem_cons_succ, List.getElem_cons_zero, List.setIfInBounds_toArray, List.set_cons_zero, List.set_cons_succ]))
                  (refine wpAnyH_take (i := 20) (v := ?_) rfl (by kernel_rfl) (by kernel_rfl) (by kernel_rfl) (fun _ _ _ h => h) (Or.inl ⟨by rfl, ?_⟩) hHeld ?_; rotate_left; (focus (intro w hSw; (try dsimp only at hSw); go_simp; try (with_reducible rfl))); (try simp only [Act.put, List.getElem_toArray, List.getElem_cons_succ, List.getElem_cons_zero, List.setIfInBounds_toArray, List.set_cons_zero, List.set_cons_succ]))
                  (refine wpAnyH_take (i := 21) (v := ?_) rfl (by kernel_rfl) (by kernel_rfl) (by kernel_rfl) (fun _ _ _ h => h) (Or.inl ⟨by rfl, ?_⟩) hHeld ?_; rotate_left; (focus (intro w hSw; (try dsimp only at hSw); go_simp; try (with_reducible rfl))); (try simp only [Act.put, List.getElem_toArray, List.getElem_cons_succ, List.getElem_cons_zero, List.setIfInBounds_toArray, List.set_cons_zero, List.set_cons_succ]))
                  (refine wpAnyH_take (i := 22) (v := ?_) rfl (by kernel_rfl) (by kernel_rfl) (by kernel_rfl) (fun _ _ _ h => h) (Or.inl ⟨by rfl, ?_⟩) hHeld ?_; rotate_left; (focus (intro w hSw; (try dsimp only at hSw); go_simp; try (with_reducible rfl))); (try simp only [Act.put, List.getElem_toArray, List.getElem_cons_succ, List.getElem_cons_zero, List.setIfInBounds_toArray, List.set_cons_zero, List.set_cons_succ]))
                  (refine wpAnyH_take (i := 23) (v := ?_) rfl (by kernel_rfl) (by kernel_rfl) (by kernel_rfl) (fun _ _ _ h => h) (Or.inl ⟨by rfl, ?_⟩) hHeld ?_; rotate_left; (focus (intro w hSw; (try dsimp only at hSw); go_simp; try (with_reducible rfl))); (try simp only [Act.put, List.getElem_toArray, List.getElem_cons_succ, List.getElem_cons_zero, List.setIfInBounds_toArray, List.set_cons_zero, List.set_cons_succ]))
                  (refine wpAnyH_take (i := 24) (v := ?_) rfl (by kernel_rfl) (by kernel_rfl) (by kernel_rfl) (fun _ _ _ h => h) (Or.inl ⟨by rfl, ?_⟩) hHeld ?_; rotate_left; (focus (intro w hSw; (try dsimp only at hSw); go_simp; try (with_reducible rfl))); (try simp only [Act.put, List.getElem_toArray, List.getElem_cons_succ, List.getElem_cons_zero, List.setIfInBounds_toArray, List.set_cons_zero, List.set_cons_succ]))
                  (refine wpAnyH_take (i := 25) (v := ?_) rfl (by kernel_rfl) (by kernel_rfl) (by kernel_rfl) (fun _ _ _ h => h) (Or.inl ⟨by rfl, ?_⟩) hHeld ?_; rotate_left; (focus (intro w hSw; (try dsimp only at hSw); go_simp; try (with_reducible rfl))); (try simp only [Act.put, List.getElem_toArray, List.getElem_cons_succ, List.getElem_cons_zero, List.setIfInBounds_toArray, List.set_cons_zero, List.set_cons_succ]))
                  (refine wpAnyH_take (i := 26) (v := ?_) rfl (by kernel_rfl) (by kernel_rfl) (by kernel_rfl) (fun _ _ _ h => h) (Or.inl ⟨by rfl, ?_⟩) hHeld ?_; rotate_left; (focus (intro w hSw; (try dsimp only at hSw); go_simp; try (with_reducible rfl))); (try simp only [Act.put, List.getElem_toArray, List.getElem_cons_succ, List.getElem_cons_zero, List.setIfInBounds_toArray, List.set_cons_zero, List.set_cons_succ]))
                  (refine wpAnyH_take (i := 27) (v := ?_) rfl (by kernel_rfl) (by kernel_rfl) (by kernel_rfl) (fun _ _ _ h => h) (Or.inl ⟨by rfl, ?_⟩) hHeld ?_; rotate_left; (focus (intro w hSw; (try dsimp only at hSw); go_simp; try (with_reducible rfl))); (try simp only [Act.put, List.getElem_toArray, List.getElem_cons_succ, List.getElem_cons_zero, List.setIfInBounds_toArray, List.set_cons_zero, List.set_cons_succ]))
                  (refine wpAnyH_take (i := 28) (v := ?_) rfl (by kernel_rfl) (by kernel_rfl) (by kernel_rfl) (fun _ _ _ h => h) (Or.inl ⟨by rfl, ?_⟩) hHeld ?_; rotate_left; (focus (intro w hSw; (try dsimp only at hSw); go_simp; try (with_reducible rfl))); (try simp only [Act.put, List.getElem_toArray, List.getElem_cons_succ, List.getElem_cons_zero, List.setIfInBounds_toArray, List.set_cons_zero, List.set_cons_succ]))
                  (refine wpAnyH_take (i := 29) (v := ?_) rfl (by kernel_rfl) (by kernel_rfl) (by kernel_rfl) (fun _ _ _ h => h) (Or.inl ⟨by rfl, ?_⟩) hHeld ?_; rotate_left; (focus (intro w hSw; (try dsimp only at hSw); go_simp; try (with_reducible rfl))); (try simp only [Act.put, List.getElem_toArray, List.getElem_cons_succ, List.getElem_cons_zero, List.setIfInBounds_toArray, List.set_cons_zero, List.set_cons_succ]))
                  (refine wpAnyH_take (i := 30) (v := ?_) rfl (by kernel_rfl) (by kernel_rfl) (by kernel_rfl) (fun _ _ _ h => h) (Or.inl ⟨by rfl, ?_⟩) hHeld ?_; rotate_left; (focus (intro w hSw; (try dsimp only at hSw); go_simp; try (with_reducible rfl))); (try simp only [Act.put, List.getElem_toArray, List.getElem_cons_succ, List.getElem_cons_zero, List.setIfInBounds_toArray, List.set_cons_zero, List.set_cons_succ]))
                  (refine wpAnyH_take (i := 31) (v := ?_) rfl (by kernel_rfl) (by kernel_rfl) (by kernel_rfl) (fun _ _ _ h => h) (Or.inl ⟨by rfl, ?_⟩) hHeld ?_; rotate_left; (focus (intro w hSw; (try dsimp only at hSw); go_simp; try (with_reducible rfl))); (try simp only [Act.put, List.getElem_toArray, List.getElem_cons_succ, List.getElem_cons_zero, List.setIfInBounds_toArray, List.set_cons_zero, List.set_cons_succ]))
                  (refine wpAnyH_take (i := 32) (v := _) rfl (by kernel_rfl) (by kernel_rfl) (by kernel_rfl) (fun _ _ _ h => h) (Or.inr ⟨by rfl, rfl⟩) hHeld ?_; (try simp only [Act.put, List.getElem_toArray, List.getElem_cons_succ, List.getElem_cons_zero, List.setIfInBounds_toArray, List.set_cons_zero, List.set_cons_succ]))
                  (refine wpAnyH_take (i := 33) (v := _) rfl (by kernel_rfl) (by kernel_rfl) (by kernel_rfl) (fun _ _ _ h => h) (Or.inr ⟨by rfl, rfl⟩) hHeld ?_; (try simp only [Act.put, List.getElem_toArray, List.getElem_cons_succ, List.getElem_cons_zero, List.setIfInBounds_toArray, List.set_cons_zero, List.set_cons_succ]))
                  (refine wpAnyH_take (i := 34) (v := _) rfl (by kernel_rfl) (by kernel_rfl) (by kernel_rfl) (fun _ _ _ h => h) (Or.inr ⟨by rfl, rfl⟩) hHeld ?_; (try simp only [Act.put, List.getElem_toArray, List.getElem_cons_succ, List.getElem_cons_zero, List.setIfInBounds_toArray, List.set_cons_zero, List.set_cons_succ]))
                  (refine wpAnyH_take (i := 35) (v := ?_) rfl (by kernel_rfl) (by kernel_rfl) (by kernel_rfl) (fun _ _ _ h => h) (Or.inl ⟨by rfl, ?_⟩) hHeld ?_; rotate_left; (focus (intro w hSw; (try dsimp only at hSw); go_simp; try (with_reducible rfl))); (try simp only [Act.put, List.getElem_toArray, List.getElem_cons_succ, List.getElem_cons_zero, List.setIfInBounds_toArray, List.set_cons_zero, List.set_cons_succ]))
                  (refine wpAnyH_take (i := 36) (v := ?_) rfl (by kernel_rfl) (by kernel_rfl) (by kernel_rfl) (fun _ _ _ h => h) (Or.inl ⟨by rfl, ?_⟩) hHeld ?_; rotate_left; (focus (intro w hSw; (try dsimp only at hSw); go_simp; try (with_reducible rfl))); (try simp only [Act.put, List.getElem_toArray, List.getElem_cons_succ, List.getElem_cons_zero, List.setIfInBounds_toArray, List.set_cons_zero, List.set_cons_succ]))
                  refine wpAnyH_done (by kernel_rfl) ?_ _
                  have HP5 := Lib.hid (pl_below HP4.out (b_drew (Below.refl _ _)))
                  go_wp2_with fail
                  go_meet
                  case rel => exact ⟨g, cap, gr, cr, L, rfl, HP5.out⟩
          · as_aux_lemma =>
              subst h
              have HRT := Lib.hid (l3right_any _ A0 HTA.out)
              go_wp2_with fail
              refine HRT.out.mono ?_
              rintro e w4 ⟨lv, rfl, own4, hb4⟩
              obtain ⟨A, hA⟩ : ∃ A, A = rightL A0 A0.length := ⟨_, rfl⟩
              rw [← hA] at own4
              have hA12 : A.length ≤ 12 := by rw [hA]; exact rightL_len _ _
              have hAg : ∀ t ∈ A, GoodA t ∧ KindA t := fun t ht => by
                rw [hA] at ht
                obtain ⟨m1, m2⟩ := rightL_mem A0 A0.length t ht
                exact ⟨GA.out t m1, m2⟩
              have P4 := pl_below HS.out hb4
              have hown := ownR_lt own4
              have l1 := HS.out.a.rw.1
              have l2 := HS.out.a.hd.1
              have l3 := HS.out.r.rw.1
              have HDO := Lib.hid (l3do_any P4.a (ownR_read own4) hA12 hAg (fun j hj => by
                obtain ⟨z1, z2⟩ := hown j hj
                exact ⟨z2, by omega⟩))
              have HP4 := Lib.hid P4
              have HO4 := Lib.hid own4
              have HA12 := Lib.hid hA12
              have HAG := Lib.hid hAg
              have HLL : Hid (g < wB.heap.size ∧ wB.heap.size ≤ w4.heap.size) := ⟨l1, hb4.size⟩
              obtain ⟨la, lc, rfl, _, _⟩ := readR_len (ownR_read own4)
              clear own4 hb4 hown hA hA12 hAg P4 z0 z1 z2 z3 z4 z5 z6 zf l1 l2 l3
              unfold tp at HDO
              go_wp2_with fail
              refine HDO.out.mono ?_
              rintro e w5 ⟨n, x, tv, rfl, hdn, A5, told5, hto, G5⟩
              obtain ⟨tva, tvc, rfl, _, _⟩ := readR_len told5
              have R5 : RowAt w5 gr cr L := ⟨blk_gx HP4.out.r.rw G5 (fun e => HS.out.ng e.symm), HS.out.r.le, HS.out.r.cp, HS.out.r.by_, HS.out.r.mx⟩
              have own5 := ownR_gx HO4.out G5 (fun j hj e => by have := (ownR_lt HO4.out j hj).1; have := HLL.out; omega)
              have HRD := Lib.hid (r3do_any _ R5 (ownR_read own5) HA12.out HAG.out)
              have HB5 : Hid (Below w.heap.size w w5) := b_gx HP4.out.bw G5 (fun j e => by rw [e]; exact HS.out.lg)
              have HA5 := Lib.hid A5
              have HDN := Lib.hid hdn
              have HL5 : Hid (gr < w5.heap.size ∧ g < w5.heap.size ∧ b < w5.heap.size) := ⟨R5.rw.1, A5.rw.1, A5.hd.1⟩
              clear R5 own5 A5 hdn told5 hto G5
              unfold rowV at HRD
              go_wp2_with fail
              refine HRD.out.mono ?_
              rintro e w6 ⟨n', x', g', cap', rfl, hdn', R6, hor, hb6⟩
              obtain ⟨en, ex⟩ := done_eq HDN.out hdn'
              subst en; subst ex
              have HP6 : Hid (PlS w w6 b g cap g' cap' (if x = 0 then stL L A A.length else L)) := by
                refine ⟨are_below HA5.out hb6, R6, ?_, ?_, HS.out.lb, HS.out.lg, ?_, b_call HB5.out hb6⟩
                · rcases hor with q | q
                  · rw [q]; exact HS.out.ng
                  · have := HL5.out; omega
                · rcases hor with q | q
                  · rw [q]; exact HS.out.nb
                  · have := HL5.out; omega
                · rcases hor with q | q
                  · rw [q]; exact HS.out.lr
                  · have := HB5.out.size; omega
              clear R6 hor hb6 hdn'
              unfold rowV
              rcases Decidable.em (x = 0) with hx | hx
              · rw [if_pos hx] at HP6
                rw [if_pos hx]
                go_wp2_with fail
                go_meet
                case rel => exact ⟨g, cap, g', cap', _, rfl, HP6.out⟩
              · rw [if_neg hx] at HP6
                rw [if_neg hx]
                go_wp2_with fail
                go_meet
                case rel => exact ⟨g, cap, g', cap', _, rfl, HP6.out⟩
          · as_aux_lemma =>
              have f0 : (ok == 0) = false := by rw [beq_eq_false_iff_ne]; exact hno.1
              have f1 : (ok == 1) = false := by rw [beq_eq_false_iff_ne]; exact hno.2.1
              have f2 : (ok == 2) = false := by rw [beq_eq_false_iff_ne]; exact hno.2.2.1
              have f3 : (ok == 3) = false := by rw [beq_eq_false_iff_ne]; exact hno.2.2.2.1
              have f4 : (ok == 4) = false := by rw [beq_eq_false_iff_ne]; exact hno.2.2.2.2.1
              have f5 : (ok == 5) = false := by rw [beq_eq_false_iff_ne]; exact hno.2.2.2.2.2.1
              have f6 : (ok == 6) = false := by rw [beq_eq_false_iff_ne]; exact hno.2.2.2.2.2.2
              clear hno z0 z1 z2 z3 z4 z5 z6 zf
              go_wp2_with fail
              go_meet
              case rel => exact ⟨g, cap, gr, cr, L, rfl, HS.out⟩
        case rest =>
        obtain ⟨g2, cap2, gr2, cr2, L2, rfl, PS2⟩ := hcut
        have HSM := Lib.hid (l3same_eq PS2.a _ (row_read PS2.r))
        have HPS2 := Lib.hid PS2
        clear PS2 z0 z1 z2 z3 z4 z5 z6 zf HIN HWD
        unfold tp rowV at HSM
        unfold rowV
        go_wp2_with fail
        refine HSM.out.mono ?_
        rintro e w9 ⟨rfl, hb9⟩
        have HP9 := Lib.hid (pl_below HPS2.out hb9)
        clear hb9
        go_wp2_with fail
        exact ⟨⟨k + 1, HLT.out, by go_num, g2, cap2, gr2, cr2, L2, rfl, HP9.out⟩, by have := HLT.out; simp only [intOf]; omega⟩
      · have k2 : (30 : Int) ≤ k := by omega
        have HB9 := Lib.hid PS.bw
        clear PS hp GC gc gx rM0 bM0 rA0 gA0 h4
        have HBW := Lib.hid (b_alloc HB9.out (.cells #[.int .i64 ok, .int .i64 oa, .int .i64 on, .int .u8 oc, .int .u64 ox, .slice ba M0.length bc, .slice ta A0.length tc] 55))
        go_wp2_with fail
        refine (awake3_any _).mono ?_
        rintro e w4 ⟨rfl, hb4⟩
        go_wp2_with fail
        go_ret
        exact ⟨rfl, b_call HBW.out hb4⟩
    · obtain ⟨g, cap, gr, cr, L, rfl, PS⟩ := hp.out
      have HB9 := Lib.hid PS.bw
      clear PS hp
      go_wp2_with fail
      refine (awake3_any _).mono ?_
      rintro e w4 ⟨rfl, hb4⟩
      go_wp2_with fail
      go_ret
      exact ⟨rfl, b_call HB9.out hb4⟩
end Go.Proofs.Ytgbbnmjfkhconaa
