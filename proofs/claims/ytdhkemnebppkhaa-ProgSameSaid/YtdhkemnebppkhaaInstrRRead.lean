/- Layer 24: an instruction read by the document's own Read. Conditions: the slice reads as bytes, of fewer than 2^38. -/
import Derived.Test.YtdhkemnebppkhaaInstrRead
import Derived.Test.YtdhkemnebppkhaaBlk
namespace Go.Proofs.Ytdhkemnebppkhaa
open Go.RowKit
set_option linter.unusedVariables false
set_option linter.unusedSimpArgs false
theorem tell_no {op : Int} (h : shOk op = true) : ((tellS (kindOf op)).toList == [45]) = false ∧ ¬ (tellS (kindOf op)).toList = [45] := by
  have hk := kind_le op
  have h4 : kindOf op ≠ 4 := by
    intro e; unfold shOk at h; rw [e] at h; cases h
  exact ⟨beq_false_of_ne (tell_ne hk h4), tell_ne hk h4⟩
theorem tell_bad {op : Int} (h : shOk op = false) : kindOf op = 4 := by
  unfold shOk at h
  rcases Nat.lt_or_ge (kindOf op) 4 with q | q
  · rw [show (kindOf op != 4) = true by rw [bne_iff_ne]; omega] at h; cases h
  · have := kind_le op; omega
theorem szR_bytes (op : Int) : (bytesI op 0 0 0).length = szR op := by
  rw [bytesI_length]; unfold szR
  rcases kinds op with ⟨_, k2, k3⟩ | ⟨_, k2, k3⟩ | ⟨_, k2, k3⟩ | ⟨_, k2, k3⟩ | ⟨_, k2, k3⟩ <;> rw [k2, k3] <;> rfl
theorem rread_empty (u : Value) (w : World) (h : ReadB w u []) : Calls Try.prog 23 #[u] w fun e w' => e = .returned (.tuple #[instV 0 0 0 0, .int .i64 0]) ∧ Below w.heap.size w w' := by
  obtain ⟨a, cap, rfl⟩ := readB_len h
  clear h
  rw [show ([] : List Int).length = 0 from rfl]
  go_enter Try.func23, Try.ntmps23
  go_wp2_with fail
  exact bodyPost_ret (v := .tuple #[instV 0 0 0 0, .int .i64 0]) (by simp [results, Try.results23, go_sem, instV]) rfl ⟨rfl, b_alloc (Below.refl _ _) _⟩
theorem rread_bad (u : Value) (xs : List Int) (w : World) (h : ReadB w u xs) (hb : IsBytes xs) (h0 : 0 < xs.length) (hok : shOk (opR xs) = false) : Calls Try.prog 23 #[u] w fun e w' => e = .returned (.tuple #[instV 0 0 0 0, .int .i64 0]) ∧ Below w.heap.size w w' := by
  obtain ⟨b, o, cap, rfl, h1, h2, h3, h4⟩ := readB_pos h h0
  have hc := h4 0 h0
  obtain ⟨x1, x2⟩ := isBytes_at hb 0 h0
  rw [Nat.add_zero] at hc
  obtain ⟨op, hop⟩ : ∃ op, op = opR xs := ⟨_, rfl⟩
  rw [show xs.getD 0 0 = op from hop.symm] at hc x1 x2
  rw [← hop] at hok
  have t0 : ((xs.length : Int) == 0) = false := beq_false_of_ne (by omega)
  have p0 : (0 : Int) < xs.length := by omega
  have hcv : IntKind.i64.wrap op = op := by rw [IntWalk.i64_in]; omega
  have HK := Lib.hid (tell_bad hok)
  clear h h4 hok hop hb
  go_enter Try.func23, Try.ntmps23
  go_wp2_with fail
  refine (told_any _ _).mono ?_
  rintro e w1 ⟨rfl, hb1⟩
  have hB1 : Below w.heap.size w w1 := b_call (b_alloc (Below.refl _ _) _) hb1
  obtain ⟨r0, r1, r2, r3, rf⟩ := blk4 (blk_born hb1)
  rw [HK.out, show tellS 4 = ⟨#[45]⟩ from rfl]
  go_wp2_with fail
  exact bodyPost_ret (v := .tuple #[instV 0 0 0 0, .int .i64 0]) (by simp [results, Try.results23, go_sem, instV, r0, r1, r2, r3, rf]) rfl ⟨rfl, (by repeat' (first | assumption | exact Below.refl _ _ | refine b_set ?_ (by first | exact Nat.le_refl _ | (simp only []; omega) | omega) _ | refine b_alloc ?_ _))⟩
theorem rread_short (u : Value) (xs : List Int) (w : World) (h : ReadB w u xs) (hb : IsBytes xs) (h0 : 0 < xs.length) (hok : shOk (opR xs) = true) (hsz : xs.length < szR (opR xs)) : Calls Try.prog 23 #[u] w fun e w' => e = .returned (.tuple #[instV 0 0 0 0, .int .i64 0]) ∧ Below w.heap.size w w' := by
  obtain ⟨b, o, cap, rfl, h1, h2, h3, h4⟩ := readB_pos h h0
  have hc := h4 0 h0
  obtain ⟨x1, x2⟩ := isBytes_at hb 0 h0
  rw [Nat.add_zero] at hc
  obtain ⟨op, hop⟩ : ∃ op, op = opR xs := ⟨_, rfl⟩
  rw [show xs.getD 0 0 = op from hop.symm] at hc x1 x2
  rw [← hop] at hok hsz
  have t0 : ((xs.length : Int) == 0) = false := beq_false_of_ne (by omega)
  have p0 : (0 : Int) < xs.length := by omega
  have hcv : IntKind.i64.wrap op = op := by rw [IntWalk.i64_in]; omega
  obtain ⟨nt1, nt2⟩ := tell_no hok
  obtain ⟨n, hn⟩ : ∃ n, n = szR op := ⟨_, rfl⟩
  rw [← hn] at hsz
  have tl : decide ((xs.length : Int) < (n : Int)) = true := by rw [decide_eq_true_iff]; omega
  have HSB : Hid ((bytesI op 0 0 0).length = n) := Lib.hid (by rw [szR_bytes, hn])
  clear h h4 hok hop hb hn
  go_enter Try.func23, Try.ntmps23
  go_wp2_with fail
  refine (told_any _ _).mono ?_
  rintro e w1 ⟨rfl, hb1⟩
  have hB1 : Below w.heap.size w w1 := b_call (b_alloc (Below.refl _ _) _) hb1
  have R1 := blk_born hb1
  have z1 : w.heap.size < w1.heap.size := R1.1
  have hc1 := ((bcell hB1).1 b o h3).trans hc
  obtain ⟨r0, r1, r2, r3, rf⟩ := blk4 R1
  go_wp2_with fail
  refine (rbytes_any op 0 0 0 _ (by omega) (by omega) (by omega) (by omega)).mono ?_
  rintro e w2 ⟨v, rfl, own, hb2⟩
  have hB2 : Below w.heap.size w w2 := b_call (b_alloc hB1 _) hb2
  have G2 := blk_born hb2
  have R2 := blk_below (blk_alloc R1 _) hb2
  obtain ⟨va, vc, rfl⟩ := readB_len (ownB_read own)
  rw [HSB.out]
  clear own r0 r1 r2 r3 rf hc1 hcv t0 nt2
  obtain ⟨r0, r1, r2, r3, rf⟩ := blk4 R2
  obtain ⟨g0, g1, g2, g3, gf⟩ := blk4 G2
  go_wp2_with fail
  exact bodyPost_ret (v := .tuple #[instV 0 0 0 0, .int .i64 0]) (by simp [results, Try.results23, go_sem, instV, r0, r1, r2, r3, rf]) rfl ⟨rfl, (by repeat' (first | assumption | exact Below.refl _ _ | refine b_set ?_ (by first | exact Nat.le_refl _ | (simp only []; omega) | omega) _ | refine b_alloc ?_ _))⟩
set_option maxHeartbeats 4000000 in
theorem rread_ok (u : Value) (xs : List Int) (w : World) (h : ReadB w u xs) (hb : IsBytes xs) (hl : xs.length ≤ 274877906944) (hok : okR xs = true) : Calls Try.prog 23 #[u] w fun e w' => e = .returned (.tuple #[instV (opR xs) (xR xs) (aR xs) (bR xs), .int .i64 (szR (opR xs))]) ∧ Below w.heap.size w w' := by
  have h0 : 0 < xs.length := by
    unfold okR at hok; rw [Bool.and_eq_true, Bool.and_eq_true, decide_eq_true_iff] at hok; exact hok.1.1
  have hsz : szR (opR xs) ≤ xs.length := by
    unfold okR at hok; rw [Bool.and_eq_true, decide_eq_true_iff] at hok; exact hok.2
  have hsh : shOk (opR xs) = true := by
    unfold okR at hok; rw [Bool.and_eq_true, Bool.and_eq_true] at hok; exact hok.1.2
  have HRD := Lib.hid h
  obtain ⟨b, o, cap, rfl, h1, h2, h3, h4⟩ := readB_pos h h0
  have hc := h4 0 h0
  obtain ⟨x1, x2⟩ := isBytes_at hb 0 h0
  rw [Nat.add_zero] at hc
  obtain ⟨op, hop⟩ : ∃ op, op = opR xs := ⟨_, rfl⟩
  rw [show xs.getD 0 0 = op from hop.symm] at hc x1 x2
  have EX : Hid (xR xs = if shX (opR xs) = true then getL ((cutL xs 1 9).take 8) else 0) := rfl
  have EA : Hid (aR xs = if 0 < shN (opR xs) then getL ((cutL xs 1 3).take 8) else 0) := rfl
  have EB : Hid (bR xs = if 1 < shN (opR xs) then getL ((cutL xs 3 5).take 8) else 0) := rfl
  rw [← hop] at hsz hsh EX EA EB ⊢
  have t0 : ((xs.length : Int) == 0) = false := beq_false_of_ne (by omega)
  have p0 : (0 : Int) < xs.length := by omega
  have hcv : IntKind.i64.wrap op = op := by rw [IntWalk.i64_in]; omega
  obtain ⟨nt1, nt2⟩ := tell_no hsh
  obtain ⟨q0, q1, q2⟩ := flag_kind op
  have HP := Lib.hid hop; have HL := Lib.hid hl; have HBY := Lib.hid hb; have HSZ := Lib.hid hsz
  have hsb := szR_bytes op
  have NT1 := Lib.hid nt1
  clear h h4 hok hop hb hl hsz
  rcases kinds op with ⟨k1, k2, k3⟩ | ⟨k1, k2, k3⟩ | ⟨k1, k2, k3⟩ | ⟨k1, k2, k3⟩ | ⟨k1, k2, k3⟩
  · rw [hsh] at k1; cases k1
  · have hs : szR op = 1 := by unfold szR; rw [k2, k3]; rfl
    have l1 : 1 ≤ xs.length := hs ▸ HSZ.out
    have l1i : (1 : Int) ≤ xs.length := by omega
    have t1 : decide ((xs.length : Int) < 1) = false := by rw [decide_eq_false_iff_not]; omega
    have c1 : 1 ≤ cap := by omega
    have p0 : hasB op 120 = false := by rw [q0, k3]
    have p1 : hasB op 97 = false := by rw [q1, k2]; rfl
    have p2 : hasB op 98 = false := by rw [q2, k2]; rfl
    have P0 := Lib.hid p0; have P1 := Lib.hid p1; have P2 := Lib.hid p2
    have HSB : Hid ((bytesI op 0 0 0).length = 1) := Lib.hid (by rw [hsb, hs])
    have K2 := Lib.hid k2; have K3 := Lib.hid k3; have KS := Lib.hid hs
    clear k1 k2 k3 hs q0 q1 q2 p0 p1 p2 hsb hsh
    go_enter Try.func23, Try.ntmps23
    go_wp2_with fail
    refine (told_any _ _).mono ?_
    rintro e w1 ⟨rfl, hb1⟩
    have hB1 : Below w.heap.size w w1 := b_call (b_alloc (Below.refl _ _) _) hb1
    have R1 := blk_born hb1
    have z1 : w.heap.size < w1.heap.size := R1.1
    have hc1 := ((bcell hB1).1 b o h3).trans hc
    obtain ⟨r0, r1, r2, r3, rf⟩ := blk4 R1
    go_wp2_with fail
    refine (rbytes_any op 0 0 0 _ (by omega) (by omega) (by omega) (by omega)).mono ?_
    rintro e w2 ⟨v, rfl, own, hb2⟩
    have hB2 : Below w.heap.size w w2 := b_call (b_alloc hB1 _) hb2
    have G2 := blk_born hb2
    have R2 := blk_below (blk_alloc R1 _) hb2
    obtain ⟨va, vc, rfl⟩ := readB_len (ownB_read own)
    rw [HSB.out]
    clear own r0 r1 r2 r3 rf hc1 hcv t0 nt2
    obtain ⟨r0, r1, r2, r3, rf⟩ := blk4 R2
    obtain ⟨g0, g1, g2, g3, gf⟩ := blk4 G2
    go_wp2_with fail
    refine (has_any _ _ _).mono ?_
    rintro e w3 ⟨rfl, hb3⟩
    have hB3 : Below w.heap.size w w3 := b_call hB2 hb3
    have G3 := blk_below G2 hb3
    have R3 := blk_below R2 hb3
    rw [P0.out]
    clear g0 g1 g2 g3 gf r0 r1 r2 r3 rf
    obtain ⟨r0, r1, r2, r3, rf⟩ := blk4 R3
    obtain ⟨g0, g1, g2, g3, gf⟩ := blk4 G3
    have hBc : Below w.heap.size w w3 := hB3
    go_wp2_with fail
    refine (has_any _ _ _).mono ?_
    rintro e w4 ⟨rfl, hb4⟩
    have hB4 : Below w.heap.size w w4 := b_call hB3 hb4
    have G4 := blk_below G3 hb4
    have R4 := blk_below R3 hb4
    rw [P1.out]
    clear g0 g1 g2 g3 gf r0 r1 r2 r3 rf
    obtain ⟨r0, r1, r2, r3, rf⟩ := blk4 R4
    obtain ⟨g0, g1, g2, g3, gf⟩ := blk4 G4
    have hBc : Below w.heap.size w w4 := hB4
    go_wp2_with fail
    refine (has_any _ _ _).mono ?_
    rintro e w5 ⟨rfl, hb5⟩
    have hB5 : Below w.heap.size w w5 := b_call hB4 hb5
    have G5 := blk_below G4 hb5
    have R5 := blk_below R4 hb5
    rw [P2.out]
    clear g0 g1 g2 g3 gf r0 r1 r2 r3 rf
    obtain ⟨r0, r1, r2, r3, rf⟩ := blk4 R5
    obtain ⟨g0, g1, g2, g3, gf⟩ := blk4 G5
    have hBc : Below w.heap.size w w5 := hB5
    go_wp2_with fail
    exact bodyPost_ret (v := .tuple #[instV op (xR xs) (aR xs) (bR xs), .int .i64 (szR op)]) (by rw [EX.out, EA.out, EB.out, K2.out, K3.out, KS.out]; simp [results, Try.results23, go_sem, instV, r0, r1, r2, r3, rf, g0, g1, g2, g3, gf]) rfl ⟨rfl, (by repeat' (first | assumption | exact Below.refl _ _ | refine b_set ?_ (by first | exact Nat.le_refl _ | (simp only []; omega) | omega) _ | refine b_alloc ?_ _))⟩
  · have hs : szR op = 9 := by unfold szR; rw [k2, k3]; rfl
    have l1 : 9 ≤ xs.length := hs ▸ HSZ.out
    have l1i : (9 : Int) ≤ xs.length := by omega
    have t1 : decide ((xs.length : Int) < 9) = false := by rw [decide_eq_false_iff_not]; omega
    have c1 : 9 ≤ cap := by omega
    have p0 : hasB op 120 = true := by rw [q0, k3]
    have p1 : hasB op 97 = false := by rw [q1, k2]; rfl
    have p2 : hasB op 98 = false := by rw [q2, k2]; rfl
    have P0 := Lib.hid p0; have P1 := Lib.hid p1; have P2 := Lib.hid p2
    have HSB : Hid ((bytesI op 0 0 0).length = 9) := Lib.hid (by rw [hsb, hs])
    have K2 := Lib.hid k2; have K3 := Lib.hid k3; have KS := Lib.hid hs
    clear k1 k2 k3 hs q0 q1 q2 p0 p1 p2 hsb hsh
    go_enter Try.func23, Try.ntmps23
    go_wp2_with fail
    refine (told_any _ _).mono ?_
    rintro e w1 ⟨rfl, hb1⟩
    have hB1 : Below w.heap.size w w1 := b_call (b_alloc (Below.refl _ _) _) hb1
    have R1 := blk_born hb1
    have z1 : w.heap.size < w1.heap.size := R1.1
    have hc1 := ((bcell hB1).1 b o h3).trans hc
    obtain ⟨r0, r1, r2, r3, rf⟩ := blk4 R1
    go_wp2_with fail
    refine (rbytes_any op 0 0 0 _ (by omega) (by omega) (by omega) (by omega)).mono ?_
    rintro e w2 ⟨v, rfl, own, hb2⟩
    have hB2 : Below w.heap.size w w2 := b_call (b_alloc hB1 _) hb2
    have G2 := blk_born hb2
    have R2 := blk_below (blk_alloc R1 _) hb2
    obtain ⟨va, vc, rfl⟩ := readB_len (ownB_read own)
    rw [HSB.out]
    clear own r0 r1 r2 r3 rf hc1 hcv t0 nt2
    obtain ⟨r0, r1, r2, r3, rf⟩ := blk4 R2
    obtain ⟨g0, g1, g2, g3, gf⟩ := blk4 G2
    go_wp2_with fail
    refine (has_any _ _ _).mono ?_
    rintro e w3 ⟨rfl, hb3⟩
    have hB3 : Below w.heap.size w w3 := b_call hB2 hb3
    have G3 := blk_below G2 hb3
    have R3 := blk_below R2 hb3
    rw [P0.out]
    clear g0 g1 g2 g3 gf r0 r1 r2 r3 rf
    obtain ⟨r0, r1, r2, r3, rf⟩ := blk4 R3
    obtain ⟨g0, g1, g2, g3, gf⟩ := blk4 G3
    have hBc : Below w.heap.size w w3 := hB3
    go_wp2_with fail
    refine (rnget_any _ (cutL xs 1 9) _ (readB_below (readB_cut HRD.out 1 9 (by omega) (by omega)) hBc) (isBytes_take (isBytes_drop HBY.out _) _) (by unfold cutL; have := HL.out; simp; omega)).mono ?_
    rintro e w9 ⟨rfl, rfl⟩
    obtain ⟨z, hz⟩ : ∃ z, z = getL ((cutL xs 1 9).take 8) := ⟨_, rfl⟩
    rw [← hz] at EX ⊢
    have HZ := Lib.hid hz; clear hz
    go_wp2_with fail
    refine (has_any _ _ _).mono ?_
    rintro e w4 ⟨rfl, hb4⟩
    have hB4 : Below w.heap.size w w4 := b_call (b_set hB3 (p := ⟨w1.heap.size, 1, none⟩) (Nat.le_of_lt z1) _) hb4
    have G4 := blk_below (blk_set G3 1 (.int .u64 z)) hb4
    have R4 := blk_below (blk_other R3 (p := ⟨w1.heap.size, 1, none⟩) (Nat.ne_of_gt z1) (.int .u64 z)) hb4
    rw [P1.out]
    clear g0 g1 g2 g3 gf r0 r1 r2 r3 rf
    obtain ⟨r0, r1, r2, r3, rf⟩ := blk4 R4
    obtain ⟨g0, g1, g2, g3, gf⟩ := blk4 G4
    have hBc : Below w.heap.size w w4 := hB4
    go_wp2_with fail
    refine (has_any _ _ _).mono ?_
    rintro e w5 ⟨rfl, hb5⟩
    have hB5 : Below w.heap.size w w5 := b_call hB4 hb5
    have G5 := blk_below G4 hb5
    have R5 := blk_below R4 hb5
    rw [P2.out]
    clear g0 g1 g2 g3 gf r0 r1 r2 r3 rf
    obtain ⟨r0, r1, r2, r3, rf⟩ := blk4 R5
    obtain ⟨g0, g1, g2, g3, gf⟩ := blk4 G5
    have hBc : Below w.heap.size w w5 := hB5
    go_wp2_with fail
    exact bodyPost_ret (v := .tuple #[instV op (xR xs) (aR xs) (bR xs), .int .i64 (szR op)]) (by rw [EX.out, EA.out, EB.out, K2.out, K3.out, KS.out]; simp [results, Try.results23, go_sem, instV, r0, r1, r2, r3, rf, g0, g1, g2, g3, gf]) rfl ⟨rfl, (by repeat' (first | assumption | exact Below.refl _ _ | refine b_set ?_ (by first | exact Nat.le_refl _ | (simp only []; omega) | omega) _ | refine b_alloc ?_ _))⟩
  · have hs : szR op = 3 := by unfold szR; rw [k2, k3]; rfl
    have l1 : 3 ≤ xs.length := hs ▸ HSZ.out
    have l1i : (3 : Int) ≤ xs.length := by omega
    have t1 : decide ((xs.length : Int) < 3) = false := by rw [decide_eq_false_iff_not]; omega
    have c1 : 3 ≤ cap := by omega
    have p0 : hasB op 120 = false := by rw [q0, k3]
    have p1 : hasB op 97 = true := by rw [q1, k2]; rfl
    have p2 : hasB op 98 = false := by rw [q2, k2]; rfl
    have P0 := Lib.hid p0; have P1 := Lib.hid p1; have P2 := Lib.hid p2
    have HSB : Hid ((bytesI op 0 0 0).length = 3) := Lib.hid (by rw [hsb, hs])
    have K2 := Lib.hid k2; have K3 := Lib.hid k3; have KS := Lib.hid hs
    clear k1 k2 k3 hs q0 q1 q2 p0 p1 p2 hsb hsh
    go_enter Try.func23, Try.ntmps23
    go_wp2_with fail
    refine (told_any _ _).mono ?_
    rintro e w1 ⟨rfl, hb1⟩
    have hB1 : Below w.heap.size w w1 := b_call (b_alloc (Below.refl _ _) _) hb1
    have R1 := blk_born hb1
    have z1 : w.heap.size < w1.heap.size := R1.1
    have hc1 := ((bcell hB1).1 b o h3).trans hc
    obtain ⟨r0, r1, r2, r3, rf⟩ := blk4 R1
    go_wp2_with fail
    refine (rbytes_any op 0 0 0 _ (by omega) (by omega) (by omega) (by omega)).mono ?_
    rintro e w2 ⟨v, rfl, own, hb2⟩
    have hB2 : Below w.heap.size w w2 := b_call (b_alloc hB1 _) hb2
    have G2 := blk_born hb2
    have R2 := blk_below (blk_alloc R1 _) hb2
    obtain ⟨va, vc, rfl⟩ := readB_len (ownB_read own)
    rw [HSB.out]
    clear own r0 r1 r2 r3 rf hc1 hcv t0 nt2
    obtain ⟨r0, r1, r2, r3, rf⟩ := blk4 R2
    obtain ⟨g0, g1, g2, g3, gf⟩ := blk4 G2
    go_wp2_with fail
    refine (has_any _ _ _).mono ?_
    rintro e w3 ⟨rfl, hb3⟩
    have hB3 : Below w.heap.size w w3 := b_call hB2 hb3
    have G3 := blk_below G2 hb3
    have R3 := blk_below R2 hb3
    rw [P0.out]
    clear g0 g1 g2 g3 gf r0 r1 r2 r3 rf
    obtain ⟨r0, r1, r2, r3, rf⟩ := blk4 R3
    obtain ⟨g0, g1, g2, g3, gf⟩ := blk4 G3
    have hBc : Below w.heap.size w w3 := hB3
    go_wp2_with fail
    refine (has_any _ _ _).mono ?_
    rintro e w4 ⟨rfl, hb4⟩
    have hB4 : Below w.heap.size w w4 := b_call hB3 hb4
    have G4 := blk_below G3 hb4
    have R4 := blk_below R3 hb4
    rw [P1.out]
    clear g0 g1 g2 g3 gf r0 r1 r2 r3 rf
    obtain ⟨r0, r1, r2, r3, rf⟩ := blk4 R4
    obtain ⟨g0, g1, g2, g3, gf⟩ := blk4 G4
    have hBc : Below w.heap.size w w4 := hB4
    go_wp2_with fail
    refine (rnget_any _ (cutL xs 1 3) _ (readB_below (readB_cut HRD.out 1 3 (by omega) (by omega)) hBc) (isBytes_take (isBytes_drop HBY.out _) _) (by unfold cutL; have := HL.out; simp; omega)).mono ?_
    rintro e w9 ⟨rfl, rfl⟩
    obtain ⟨y, hy⟩ : ∃ y, y = getL ((cutL xs 1 3).take 8) := ⟨_, rfl⟩
    have yb := getL_bd16 HBY.out hy
    rw [← hy] at EA ⊢
    have hyc : IntKind.i64.wrap y = y := by rw [IntWalk.i64_in]; omega
    have HYB := Lib.hid yb; clear yb
    have HY := Lib.hid hy; clear hy
    go_wp2_with fail
    refine (has_any _ _ _).mono ?_
    rintro e w5 ⟨rfl, hb5⟩
    have hB5 : Below w.heap.size w w5 := b_call (b_set hB4 (p := ⟨w1.heap.size, 2, none⟩) (Nat.le_of_lt z1) _) hb5
    have G5 := blk_below (blk_set G4 2 (.int .i64 y)) hb5
    have R5 := blk_below (blk_other R4 (p := ⟨w1.heap.size, 2, none⟩) (Nat.ne_of_gt z1) (.int .i64 y)) hb5
    rw [P2.out]
    clear g0 g1 g2 g3 gf r0 r1 r2 r3 rf
    obtain ⟨r0, r1, r2, r3, rf⟩ := blk4 R5
    obtain ⟨g0, g1, g2, g3, gf⟩ := blk4 G5
    have hBc : Below w.heap.size w w5 := hB5
    go_wp2_with fail
    exact bodyPost_ret (v := .tuple #[instV op (xR xs) (aR xs) (bR xs), .int .i64 (szR op)]) (by rw [EX.out, EA.out, EB.out, K2.out, K3.out, KS.out]; simp [results, Try.results23, go_sem, instV, r0, r1, r2, r3, rf, g0, g1, g2, g3, gf]) rfl ⟨rfl, (by repeat' (first | assumption | exact Below.refl _ _ | refine b_set ?_ (by first | exact Nat.le_refl _ | (simp only []; omega) | omega) _ | refine b_alloc ?_ _))⟩
  · have hs : szR op = 5 := by unfold szR; rw [k2, k3]; rfl
    have l1 : 5 ≤ xs.length := hs ▸ HSZ.out
    have l1i : (5 : Int) ≤ xs.length := by omega
    have t1 : decide ((xs.length : Int) < 5) = false := by rw [decide_eq_false_iff_not]; omega
    have c1 : 5 ≤ cap := by omega
    have p0 : hasB op 120 = false := by rw [q0, k3]
    have p1 : hasB op 97 = true := by rw [q1, k2]; rfl
    have p2 : hasB op 98 = true := by rw [q2, k2]; rfl
    have P0 := Lib.hid p0; have P1 := Lib.hid p1; have P2 := Lib.hid p2
    have HSB : Hid ((bytesI op 0 0 0).length = 5) := Lib.hid (by rw [hsb, hs])
    have K2 := Lib.hid k2; have K3 := Lib.hid k3; have KS := Lib.hid hs
    clear k1 k2 k3 hs q0 q1 q2 p0 p1 p2 hsb hsh
    go_enter Try.func23, Try.ntmps23
    go_wp2_with fail
    refine (told_any _ _).mono ?_
    rintro e w1 ⟨rfl, hb1⟩
    have hB1 : Below w.heap.size w w1 := b_call (b_alloc (Below.refl _ _) _) hb1
    have R1 := blk_born hb1
    have z1 : w.heap.size < w1.heap.size := R1.1
    have hc1 := ((bcell hB1).1 b o h3).trans hc
    obtain ⟨r0, r1, r2, r3, rf⟩ := blk4 R1
    go_wp2_with fail
    refine (rbytes_any op 0 0 0 _ (by omega) (by omega) (by omega) (by omega)).mono ?_
    rintro e w2 ⟨v, rfl, own, hb2⟩
    have hB2 : Below w.heap.size w w2 := b_call (b_alloc hB1 _) hb2
    have G2 := blk_born hb2
    have R2 := blk_below (blk_alloc R1 _) hb2
    obtain ⟨va, vc, rfl⟩ := readB_len (ownB_read own)
    rw [HSB.out]
    clear own r0 r1 r2 r3 rf hc1 hcv t0 nt2
    obtain ⟨r0, r1, r2, r3, rf⟩ := blk4 R2
    obtain ⟨g0, g1, g2, g3, gf⟩ := blk4 G2
    go_wp2_with fail
    refine (has_any _ _ _).mono ?_
    rintro e w3 ⟨rfl, hb3⟩
    have hB3 : Below w.heap.size w w3 := b_call hB2 hb3
    have G3 := blk_below G2 hb3
    have R3 := blk_below R2 hb3
    rw [P0.out]
    clear g0 g1 g2 g3 gf r0 r1 r2 r3 rf
    obtain ⟨r0, r1, r2, r3, rf⟩ := blk4 R3
    obtain ⟨g0, g1, g2, g3, gf⟩ := blk4 G3
    have hBc : Below w.heap.size w w3 := hB3
    go_wp2_with fail
    refine (has_any _ _ _).mono ?_
    rintro e w4 ⟨rfl, hb4⟩
    have hB4 : Below w.heap.size w w4 := b_call hB3 hb4
    have G4 := blk_below G3 hb4
    have R4 := blk_below R3 hb4
    rw [P1.out]
    clear g0 g1 g2 g3 gf r0 r1 r2 r3 rf
    obtain ⟨r0, r1, r2, r3, rf⟩ := blk4 R4
    obtain ⟨g0, g1, g2, g3, gf⟩ := blk4 G4
    have hBc : Below w.heap.size w w4 := hB4
    go_wp2_with fail
    refine (rnget_any _ (cutL xs 1 3) _ (readB_below (readB_cut HRD.out 1 3 (by omega) (by omega)) hBc) (isBytes_take (isBytes_drop HBY.out _) _) (by unfold cutL; have := HL.out; simp; omega)).mono ?_
    rintro e w9 ⟨rfl, rfl⟩
    obtain ⟨y, hy⟩ : ∃ y, y = getL ((cutL xs 1 3).take 8) := ⟨_, rfl⟩
    have yb := getL_bd16 HBY.out hy
    rw [← hy] at EA ⊢
    have hyc : IntKind.i64.wrap y = y := by rw [IntWalk.i64_in]; omega
    have HYB := Lib.hid yb; clear yb
    have HY := Lib.hid hy; clear hy
    go_wp2_with fail
    refine (has_any _ _ _).mono ?_
    rintro e w5 ⟨rfl, hb5⟩
    have hB5 : Below w.heap.size w w5 := b_call (b_set hB4 (p := ⟨w1.heap.size, 2, none⟩) (Nat.le_of_lt z1) _) hb5
    have G5 := blk_below (blk_set G4 2 (.int .i64 y)) hb5
    have R5 := blk_below (blk_other R4 (p := ⟨w1.heap.size, 2, none⟩) (Nat.ne_of_gt z1) (.int .i64 y)) hb5
    rw [P2.out]
    clear g0 g1 g2 g3 gf r0 r1 r2 r3 rf
    obtain ⟨r0, r1, r2, r3, rf⟩ := blk4 R5
    obtain ⟨g0, g1, g2, g3, gf⟩ := blk4 G5
    have hBc : Below w.heap.size w w5 := hB5
    go_wp2_with fail
    refine (rnget_any _ (cutL xs 3 5) _ (readB_below (readB_cut HRD.out 3 5 (by omega) (by omega)) hBc) (isBytes_take (isBytes_drop HBY.out _) _) (by unfold cutL; have := HL.out; simp; omega)).mono ?_
    rintro e w9 ⟨rfl, rfl⟩
    obtain ⟨x, hx⟩ : ∃ x, x = getL ((cutL xs 3 5).take 8) := ⟨_, rfl⟩
    have xb := getL_bd16 HBY.out hx
    rw [← hx] at EB ⊢
    have hxc : IntKind.i64.wrap x = x := by rw [IntWalk.i64_in]; omega
    have HXB := Lib.hid xb; clear xb
    have HX := Lib.hid hx; clear hx
    go_wp2_with fail
    exact bodyPost_ret (v := .tuple #[instV op (xR xs) (aR xs) (bR xs), .int .i64 (szR op)]) (by rw [EX.out, EA.out, EB.out, K2.out, K3.out, KS.out]; simp [results, Try.results23, go_sem, instV, r0, r1, r2, r3, rf, g0, g1, g2, g3, gf]) rfl ⟨rfl, (by repeat' (first | assumption | exact Below.refl _ _ | refine b_set ?_ (by first | exact Nat.le_refl _ | (simp only []; omega) | omega) _ | refine b_alloc ?_ _))⟩
end Go.Proofs.Ytdhkemnebppkhaa
